/- digest.Text and digest.Parse, walked. -/
import Derived.Test.YtmaknbcfnigbmaaDoorTails
import Derived.Test.YtmaknbcfnigbmaaDoorWalkShort
import Derived.Test.YtmaknbcfnigbmaaDoorWalkSigns
import Derived.Deep.MidRow
import Derived.Laws.ResultCell
namespace Go.Proofs.YtmaknbcfnigbmaaDoor
open Go.RowKit Sig Go.Proofs.YtmaknbcfnigbmaaDoorW.PrintWords

theorem text_any (l : List UInt8) (hl : l.length = 32) (w : World) :
    Calls Tryd.prog 26 #[.agg (cellsB l)] w fun e w' => ∃ s : ByteArray, e = .returned (.string s) ∧ s.toList = enc l ∧ Below w.heap.size w w' := by
  have hsz : (cellsB l).size = 32 := by rw [cellsB_size, hl]
  have HB := Lib.hid (Blk.new w 42 (cellsB l))
  have hsh : (w.alloc (.cells (cellsB l) 42)).shape? w.heap.size = some (42, 32) := by
    have h := HB.out
    unfold Blk at h
    unfold World.shape?
    rw [h]
    simp [hsz]
  have HW : Hid (Below w.heap.size w (w.alloc (.cells (cellsB l) 42))) := (Below.refl _ w).alloc (Nat.le_refl _) _
  have he := encode_str (some ⟨w.heap.size, 0, none⟩) l 32 (w.alloc (.cells (cellsB l) 42)) (Blk.reads HB.out) (by omega)
  rw [hl] at he
  have HE := Lib.hid he
  clear he hl
  go_enter Tryd.func26, Tryd.ntmps26
  go_wp2_with fail
  refine HE.out.mono ?_
  rintro e w2 ⟨s, rfl, hs, hb⟩
  go_wp2_with fail
  go_ret
  exact ⟨s, rfl, hs, below_step' HW.out hb⟩

/-- Two results: an array out of its own cell, and a plain one. -/
theorem results_row_tmp {P : Program} {fn : Func} {p u : Tmp} {ty : TypeId} (h : fn.results = #[.cell p ty, .tmp u]) (tmps : Array Value) (w : World) (g : Nat) (t : TypeId) (cs : Array Value) (fr : Nat × Nat) (d : TypeDesc)
    (hp : tmps.getD p undef = .pointer (some ⟨g, 0, none⟩)) (hg : w.heap[g]? = some (.cells cs t fr))
    (hu : P.underlying ty = some d) (hd : (match d with | .struct _ | .array _ _ => true | _ => false) = true) (hi : (P.info? ty).map (·.size) = some cs.size) :
    (results fn tmps).run P w = .ok (.tuple #[.agg cs, tmps.getD u undef]) w := by
  rw [results_cell_tmp h, hp]
  simp [asAddr, run_loadVar_row w g t ty cs fr d hg hu hd hi]

/-- What digest.Parse answers: the digest whose text it is, or none. -/
def ParsePost (s : ByteArray) (w : World) (e : Ending) (w' : World) : Prop :=
  Below w.heap.size w w' ∧ ∃ (d : List UInt8) (n : Int), d.length = 32 ∧ e = .returned (.tuple #[.agg (cellsB d), .int .i64 n]) ∧ ((enc d = s.data.toList ∧ n = 0) ∨ ((∀ b, b.length = 32 → enc b ≠ s.data.toList) ∧ d = List.replicate 32 0 ∧ n = 10))
theorem ret_none (s : ByteArray) (w w' : World) (hb : Below w.heap.size w w') (h : ∀ b, b.length = 32 → enc b ≠ s.data.toList) : ParsePost s w (.returned (.tuple #[.agg (cellsB (List.replicate 32 0)), .int .i64 10])) w' :=
  ⟨hb, _, 10, by simp, rfl, Or.inr ⟨h, rfl, rfl⟩⟩
set_option maxHeartbeats 2000000 in
set_option maxRecDepth 100000 in
theorem parse_any (s : ByteArray) (w : World) (hT : Tails w) (hs : s.size ≤ 70368744177000) :
    Calls Tryd.prog 24 #[.string s] w (ParsePost s w) := by
  have HT := Lib.hid hT
  have LS := Lib.hid hs
  clear hT hs
  have HW : Hid (Below w.heap.size w (w.alloc (.cells (cellsB (List.replicate 32 0)) 42))) := (Below.refl _ w).alloc (Nat.le_refl _) _
  have HB : Hid (Blk (w.alloc (.cells (cellsB (List.replicate 32 0)) 42)) w.heap.size 42 (cellsB (List.replicate 32 0))) := Blk.new w 42 _
  go_enter Tryd.func24, Tryd.ntmps24
  go_wp2_with fail
  change Calls _ _ _ (w.alloc (.cells (cellsB (List.replicate 32 0)) 42)) _
  refine (decode_text s _ (HT.out.below HW.out) LS.out).mono ?_
  rintro e w2 ⟨v, acc, n, rfl, hd, hb⟩
  have HW2 := Lib.hid (below_step' HW.out hb)
  have HB2 := Lib.hid (Blk.below HB.out hb (by simp))
  clear HW HB hb
  rcases hd with ⟨hown, ⟨henc, rfl⟩ | ⟨hno, rfl, rfl⟩⟩
  · obtain ⟨A, c, rfl, hc, hr⟩ := own_readsB hown
    by_cases h32 : acc.length = 32
    · obtain ⟨ad, rfl, hcell⟩ := hr (by omega)
      have hoff : ∃ g, ad = ⟨g, 0, none⟩ := by
        rcases hown.2 with ⟨h1, h2⟩ | ⟨g, cap, cur, h1, _⟩
        · omega
        · injection h1 with h1 h2 h3
          injection h1 with h1
          exact ⟨g, h1⟩
      obtain ⟨g, rfl⟩ := hoff
      have HR : Hid (w2.rangeAt g 0 (Lib.byteCells acc)) := by
        intro j u hj
        simp [Lib.byteCells] at hj
        obtain ⟨b, hb, rfl⟩ := hj
        have := hcell j b hb
        rw [Addr.add_mid] at this
        exact this
      have HE := Lib.hid henc
      have HL : Hid ((Lib.byteCells acc).length = 32) := by rw [Hid, Lib.byteCells_length]; exact h32
      have H32 := Lib.hid h32
      rw [h32]
      have hcv : (Instr.arrayAt 42 (.slice (some ⟨g, 0, none⟩) 32 c)).run Tryd.prog w2 = .ok (.pointer (some ⟨g, 0, none⟩)) w2 := by
        simp [Instr.arrayAt, run_underlying Tryd.underlying42]
      clear henc hown hcell hr hc h32
      go_wp2_with (first
        | (refine wpList_load_mid rfl 42 (.tmp 22) rfl g 0 rfl (Lib.byteCells acc) _ HR.out Tryd.underlying42 rfl (by rw [HL.out]; kernel_rfl) ?_)
        | (refine wpList_store_row rfl 42 (.tmp 2) (.tmp 23) rfl w.heap.size (cellsB acc) rfl rfl 42 _ HB2.out (by rw [cellsB_size, H32.out]; kernel_rfl) (by rw [cellsB_size acc, H32.out]; rfl) (cellsB_one _) ?_))
      refine bodyPost_ret (results_row_tmp rfl _ _ w.heap.size 42 (cellsB acc) _ _ rfl (Blk.row HB2.out _) Tryd.underlying42 rfl (by rw [cellsB_size, H32.out]; kernel_rfl)) rfl ?_
      exact ⟨below_setRow HW2.out (Nat.le_refl _) _, acc, 0, H32.out, rfl, Or.inl ⟨HE.out, rfl⟩⟩
    · have HN : Hid (∀ b, b.length = 32 → enc b ≠ s.data.toList) := fun b hb he => h32 (by rw [enc_inj acc b (henc.trans he.symm)]; exact hb)
      have hne : ((acc.length : Int) != 32) = true := by rw [bne_iff_ne]; omega
      clear henc hown hr hc h32
      go_wp2_with (refine wpList_store_row rfl 42 (.tmp 2) (.tmp 20) rfl w.heap.size (cellsB (List.replicate 32 0)) rfl rfl 42 _ HB2.out (by kernel_rfl) (by rfl) (cellsB_one _) ?_)
      refine bodyPost_ret (results_row_tmp rfl _ _ w.heap.size 42 _ _ _ rfl (Blk.row HB2.out _) Tryd.underlying42 rfl (by kernel_rfl)) rfl ?_
      exact ret_none s w _ (below_setRow HW2.out (Nat.le_refl _) _) HN.out
  · have HN := Lib.hid hno
    clear hno hown
    go_wp2_with (refine wpList_store_row rfl 42 (.tmp 2) (.tmp 14) rfl w.heap.size (cellsB (List.replicate 32 0)) rfl rfl 42 _ HB2.out (by kernel_rfl) (by rfl) (cellsB_one _) ?_)
    refine bodyPost_ret (results_row_tmp rfl _ _ w.heap.size 42 _ _ _ rfl (Blk.row HB2.out _) Tryd.underlying42 rfl (by kernel_rfl)) rfl ?_
    exact ret_none s w _ (below_setRow HW2.out (Nat.le_refl _) _) (fun b _ => HN.out b)
end Go.Proofs.YtmaknbcfnigbmaaDoor
