/- BitsSigns, walked: true for any bytes and any text of at most 2^20 bytes. digest.Text and digest.Parse, walked. Two arrays of bytes, compared. -/
import Derived.Test.YtmaknbcfnigbmaaDoorDec
import Derived.Test.YtmaknbcfnigbmaaDoorBack
import Derived.Test.YtmaknbcfnigbmaaDoorRefA
import Derived.Test.YtmaknbcfnigbmaaDoorEnc
import Derived.Deep.MidRow
import Derived.Laws.ResultCell
import Derived.Test.YtmaknbcfnigbmaaDoorMem
import Derived.ChangeKeysEq
import Derived.Laws.StructEq
import Derived.Laws.Small
namespace Go.Proofs.YtmaknbcfnigbmaaDoor
open Go.RowKit Sig Go.Proofs.YtmaknbcfnigbmaaDoorW.PrintWords Go.Proofs.YtmaknbcfnigbmaaDoor.PBitsSigns

/-- Reference's Encode, at bytes that are read. -/
theorem refEncode_str (A : Option Addr) (l : List UInt8) (c : Nat) (w : World) (hr : ReadsB w A l) (hc : l.length ≤ c) (hl : l.length ≤ 1048576) :
    Calls Tryd.prog 16 #[.slice A l.length c] w fun e w' => ∃ s : ByteArray, e = .returned (.string s) ∧ s.toList = enc l ∧ Below w.heap.size w w' := by
  have h := stillroomref01_Encode.calls (14 * l.length + 8) A c (intsB l) ⟨(enc l).toArray⟩ w (by rw [intsB_length]; exact C_of_B hr (by omega)) (by rw [intsB_length]; exact hc) (Ref01.encode_f l (by omega) _ (Nat.le_refl _))
  rw [intsB_length] at h
  exact h.mono fun _ _ ⟨h1, h2⟩ => ⟨_, h1, ByteArray.toList_eq _, h2⟩
/-- What a Decode answers, as a text and a number. -/
def DecText (s : ByteArray) (B : Nat) (W : World) (v : Value) (acc : List UInt8) (e : Int) : Prop :=
  W.ownsRow B 5 1 v acc.length (Lib.byteCells acc) ∧ ((enc acc = s.data.toList ∧ e = 0) ∨ ((∀ b, enc b ≠ s.data.toList) ∧ acc = [] ∧ e = 10))
theorem DecText.same {s : ByteArray} {B B' : Nat} {W W' : World} {v v' : Value} {a a' : List UInt8} {e e' : Int} (h : DecText s B W v a e) (h' : DecText s B' W' v' a' e') : a' = a ∧ e' = e := by
  rcases h.2 with ⟨h1, h2⟩ | ⟨h1, h2, h3⟩ <;> rcases h'.2 with ⟨k1, k2⟩ | ⟨k1, k2, k3⟩
  · exact ⟨enc_inj _ _ (k1.trans h1.symm), k2.trans h2.symm⟩
  · exact absurd h1 (k1 a)
  · exact absurd k1 (h1 a')
  · exact ⟨k2.trans h2.symm, k3.trans h3.symm⟩
theorem nil_own (W : World) (B : Nat) : W.ownsRow B 5 1 (.slice none 0 0) ([] : List UInt8).length (Lib.byteCells []) := ⟨rfl, Or.inl ⟨rfl, rfl⟩⟩
theorem decode_text (s : ByteArray) (w : World) (hT : Tails w) (hs : s.size ≤ 70368744177000) :
    Calls Tryd.prog 14 #[.string s] w fun e w' => ∃ v acc n, e = .returned (.tuple #[v, .int .i64 n]) ∧ DecText s w.heap.size w' v acc n ∧ Below w.heap.size w w' :=
  (decode_any s w hT hs).mono fun e w' ⟨hb, h⟩ => by
    rcases h with ⟨v, acc, henc, rfl, hown⟩ | ⟨hno, rfl⟩
    · exact ⟨v, acc, 0, rfl, ⟨hown, Or.inl ⟨henc, rfl⟩⟩, hb⟩
    · exact ⟨_, [], 10, rfl, ⟨nil_own _ _, Or.inr ⟨hno, rfl, rfl⟩⟩, hb⟩
theorem ints_same (l : List UInt8) : Ref01.ints l = intsB l := rfl
theorem refDecode_text (s : ByteArray) (w : World) (hs : s.size ≤ 70368744177000) :
    Calls Tryd.prog 15 #[.string s] w fun e w' => ∃ v acc n, e = .returned (.tuple #[v, .int .i64 n]) ∧ DecText s w.heap.size w' v acc n ∧ Below w.heap.size w w' := by
  have hlen : s.data.toList.length = s.size := by simp
  obtain ⟨r, hr, hd⟩ := Ref01.decode_f s.data.toList (by omega) _ (Nat.le_refl _)
  have hse : (⟨s.data.toList.toArray⟩ : ByteArray) = s := by simp
  rw [hse] at hr
  obtain ⟨r1, r2⟩ := r
  refine (stillroomref01_Decode.calls _ s r1 r2 w hr).mono fun e w' ⟨v, he, hR, hb⟩ => ?_
  have own : ∀ acc : List UInt8, r1 = intsB acc → w'.ownsRow w.heap.size 5 1 v acc.length (Lib.byteCells acc) := by
    intro acc ha
    subst ha
    have := Kd.own_of_R hR
    rw [intsB_length] at this
    rw [← numsB]
    exact this
  rcases hd with ⟨acc, henc, hrr⟩ | ⟨hno, hrr⟩
  · injection hrr with h1 h2
    exact ⟨v, acc, r2, he, ⟨own acc h1, Or.inl ⟨henc, h2⟩⟩, hb⟩
  · injection hrr with h1 h2
    exact ⟨v, [], r2, he, ⟨own [] h1, Or.inr ⟨hno, rfl, h2⟩⟩, hb⟩
theorem cat_text (l : List UInt8) : (⟨l.toArray⟩ ++ ⟨#[90]⟩ : ByteArray) = ⟨(l ++ [90]).toArray⟩ := by
  apply ByteArray.ext
  simp
theorem info8' : (Tryd.prog.info? 5).map (fun i => (i.zero, i.size, i.bytes)) = some (some (.int .u8 0), 1, 1) := by kernel_rfl

set_option maxHeartbeats 2000000 in
set_option maxRecDepth 100000 in
theorem signs_any (A : Option Addr) (b : List UInt8) (c : Nat) (s : ByteArray) (w : World) (hT : Tails w) (hb : ReadsB w A b) (hc : b.length ≤ c) (lb : b.length ≤ 1048576) (ls : s.size ≤ 1048576) :
    Calls Tryd.prog 3 #[.slice A b.length c, .string s] w fun e w' => e = .returned (.bool true) ∧ Below w.heap.size w w' := by
  have HT := Lib.hid hT
  have HB := Lib.hid hb
  have LB := Lib.hid lb
  have LS := Lib.hid ls
  have HC := Lib.hid hc
  clear hT hb lb ls hc
  have HO0 : Hid ((w.alloc (.cells #[] 5)).ownsRow w.heap.size 5 1 (.slice (some ⟨w.heap.size, 0, none⟩) 0 0) ([] : List Int).length (nums .u8 [])) := ⟨rfl, Or.inr ⟨w.heap.size, 0, #[], rfl, Nat.le_refl _, heap_alloc_new w _, Nat.le_refl _, Nat.zero_le _, rfl, rfl⟩⟩
  have HR0 : Hid (ReadsInt (w.alloc (.cells #[] 5)) .u8 A b.length (intsB b)) := (reads_of_B HB.out (by have := LB.out; omega)).below ((Below.refl _ w).alloc (Nat.le_refl _) _)
  have HW0 : Hid (Below w.heap.size w (w.alloc (.cells #[] 5))) := (Below.refl _ w).alloc (Nat.le_refl _) _
  go_enter Tryd.func3, Tryd.ntmps3
  go_wp2_with (at_builtin; refine print_append_row w.heap.size rfl _ _ 22 5 .u8 1 rfl Tryd.underlying22 info8' (by decide) _ [] (intsB b) A b.length c rfl rfl HO0.out HR0.out HW0.out (by simp) (by have := LB.out; simp; omega) ?_)
  rintro v1 w1 hown1 hw1 - -
  have HO1 := Lib.hid hown1
  have HW1 := Lib.hid hw1
  have hsz1 : w.heap.size ≤ w1.heap.size := hw1.size
  clear hown1 hw1 HO0 HR0 HW0
  go_wp2_with (at_builtin; go_loud (refine print_append_num w.heap.size rfl _ _ 22 5 .u8 1 rfl Tryd.underlying22 info8' (by decide) v1 (intsB b) 90 rfl rfl HO1.out HW1.out hsz1 (by have := LB.out; rw [intsB_length]; omega) ?_))
  rintro v2 w2 hown2 hw2 - -
  have ho2 : w2.ownsRow w.heap.size 5 1 v2 (b ++ [90]).length (Lib.byteCells (b ++ [90])) := by
    have e : intsB b ++ [90] = intsB (b ++ [90]) := by simp [intsB]
    rw [e, numsB] at hown2
    simpa [intsB_length] using hown2
  clear hown2 HO1 HW1
  obtain ⟨A2, c2, rfl, hc2, hr2⟩ := own_readsB ho2
  have HO2 := Lib.hid ho2
  have HW2 := Lib.hid hw2
  have HR2 := Lib.hid hr2
  have hbc : b.length ≤ c2 := by rw [List.length_append] at hc2; simp at hc2; omega
  have hbl : (b ++ [90]).length = b.length + 1 := by simp
  rw [hbl]
  clear ho2 hw2 hr2 hc2
  go_wp2_with fail
  refine (encode_str A2 b c2 w2 (fun hn => ?_) (by have := LB.out; omega)).mono ?_
  · obtain ⟨ad, e, hh⟩ := HR2.out (by simp)
    exact ⟨ad, e, fun j x hj => hh j x (by rw [List.getElem?_append_left (List.getElem?_eq_some_iff.1 hj).1]; exact hj)⟩
  rintro e w3 ⟨t, rfl, ht, hb3⟩
  have HTT := Lib.hid ht
  have HW3 := Lib.hid (below_step' HW2.out hb3)
  have HR3 := Lib.hid (HR2.out.below hb3)
  clear ht hb3 HO2 HR2
  go_wp2_with fail
  refine (decode_text s w3 (HT.out.below HW3.out) (by have := LS.out; omega)).mono ?_
  rintro e w4 ⟨x, acc, ex, rfl, hx, hb4⟩
  have HW4 := Lib.hid (below_step' HW3.out hb4)
  have HR4 := Lib.hid (HR3.out.below hb4)
  have HX4 := Lib.hid hx
  clear hb4 hx HR3
  go_wp2_with fail
  refine (refDecode_text s w4 (by have := LS.out; omega)).mono ?_
  rintro e w5 ⟨y, acc', ey, rfl, hy, hb5⟩
  have HW5 := Lib.hid (below_step' HW4.out hb5)
  have HR5 := Lib.hid (HR4.out.below hb5)
  obtain ⟨rfl, rfl⟩ := HX4.out.same hy
  have HX5 := Lib.hid (pw_own_below HX4.out.1 hb5)
  have HY5 := Lib.hid hy.1
  clear hb5 hy HR4
  go_wp2_with fail
  refine (refEncode_str A b c w5 (HB.out.below HW5.out) HC.out LB.out).mono ?_
  rintro e w6 ⟨u, rfl, hu, hb6⟩
  have htu : (t.toList == u.toList) = true := by rw [HTT.out, hu]; simp
  have HW6 := Lib.hid (below_step' HW5.out hb6)
  obtain ⟨sb, hsb, hsbz⟩ : ∃ sb : ByteArray, sb = ⟨b.toArray⟩ ∧ sb.size = b.length := ⟨_, rfl, rfl⟩
  obtain ⟨si, hsi⟩ : ∃ si : ByteArray, si = ⟨(b ++ [90]).toArray⟩ := ⟨_, rfl⟩
  obtain ⟨sx, hsx⟩ : ∃ sx : ByteArray, sx = ⟨acc'.toArray⟩ := ⟨_, rfl⟩
  have hc1 := text_of_B (P := Tryd.prog) (c := c2) Tryd.underlying22 Tryd.underlying5 Tryd.underlying9 (HR5.out.below hb6) (by have := LB.out; simp; omega)
  rw [← hsi, hbl] at hc1
  have hc2 := text_of_B (P := Tryd.prog) (c := c) Tryd.underlying22 Tryd.underlying5 Tryd.underlying9 (HB.out.below HW6.out) (by have := LB.out; omega)
  rw [← hsb] at hc2
  have hc3 := text_of_own (P := Tryd.prog) Tryd.underlying22 Tryd.underlying5 Tryd.underlying9 (pw_own_below HX5.out hb6)
  have hc4 := text_of_own (P := Tryd.prog) Tryd.underlying22 Tryd.underlying5 Tryd.underlying9 (pw_own_below HY5.out hb6)
  rw [← hsx] at hc3 hc4
  have hcat : sb ++ ⟨#[90]⟩ = si := by rw [hsb, hsi]; exact cat_text b
  have hroom : ¬ (((sb.size + 1 : Nat) : Int) > 9223372036854775807) := by rw [hsbz]; have := LB.out; omega
  clear hu hb6 HR5 HX4 HX5 HY5 hsb hsi hsx
  go_wp2_with fail
  refine (stillroomlaw01_names.calls true w6 rfl).mono ?_
  rintro e w7 ⟨rfl, ⟨nd, rfl⟩⟩
  go_wp2_with fail
  go_ret
  exact ⟨rfl, pw_below_drewN HW6.out _⟩
end Go.Proofs.YtmaknbcfnigbmaaDoor

namespace Go.Proofs.YtmaknbcfnigbmaaDoor
open Go.RowKit Sig Go.Proofs.YtmaknbcfnigbmaaDoorW.PrintWords

theorem text_any (l : List UInt8) (hl : l.length = 32) (w : World) :
    Calls Tryd.prog 26 #[.agg (cellsB l)] w fun e w' => ∃ s : ByteArray, e = .returned (.string s) ∧ s.toList = enc l ∧ Below w.heap.size w w' := by
  have hsz : (cellsB l).size = 32 := by rw [cellsB_size, hl]
  have HB := Lib.hid (Blk.new w 42 (cellsB l))
  have hsh : (w.alloc (.cells (cellsB l) 42)).shape? w.heap.size = some (42, 32) := by
    have h := HB.out
    unfold Blk at h
    unfold World.shape?
    rw [h]
    simp [hsz]
  have HW : Hid (Below w.heap.size w (w.alloc (.cells (cellsB l) 42))) := (Below.refl _ w).alloc (Nat.le_refl _) _
  have he := encode_str (some ⟨w.heap.size, 0, none⟩) l 32 (w.alloc (.cells (cellsB l) 42)) (Blk.reads HB.out) (by omega)
  rw [hl] at he
  have HE := Lib.hid he
  clear he hl
  go_enter Tryd.func26, Tryd.ntmps26
  go_wp2_with fail
  refine HE.out.mono ?_
  rintro e w2 ⟨s, rfl, hs, hb⟩
  go_wp2_with fail
  go_ret
  exact ⟨s, rfl, hs, below_step' HW.out hb⟩

/-- Two results: an array out of its own cell, and a plain one. -/
theorem results_row_tmp {P : Program} {fn : Func} {p u : Tmp} {ty : TypeId} (h : fn.results = #[.cell p ty, .tmp u]) (tmps : Array Value) (w : World) (g : Nat) (t : TypeId) (cs : Array Value) (fr : Nat × Nat) (d : TypeDesc)
    (hp : tmps.getD p undef = .pointer (some ⟨g, 0, none⟩)) (hg : w.heap[g]? = some (.cells cs t fr))
    (hu : P.underlying ty = some d) (hd : (match d with | .struct _ | .array _ _ => true | _ => false) = true) (hi : (P.info? ty).map (·.size) = some cs.size) :
    (results fn tmps).run P w = .ok (.tuple #[.agg cs, tmps.getD u undef]) w := by
  rw [results_cell_tmp h, hp]
  simp [asAddr, run_loadVar_row w g t ty cs fr d hg hu hd hi]

/-- What digest.Parse answers: the digest whose text it is, or none. -/
def ParsePost (s : ByteArray) (w : World) (e : Ending) (w' : World) : Prop :=
  Below w.heap.size w w' ∧ ∃ (d : List UInt8) (n : Int), d.length = 32 ∧ e = .returned (.tuple #[.agg (cellsB d), .int .i64 n]) ∧ ((enc d = s.data.toList ∧ n = 0) ∨ ((∀ b, b.length = 32 → enc b ≠ s.data.toList) ∧ d = List.replicate 32 0 ∧ n = 10))
theorem ret_none (s : ByteArray) (w w' : World) (hb : Below w.heap.size w w') (h : ∀ b, b.length = 32 → enc b ≠ s.data.toList) : ParsePost s w (.returned (.tuple #[.agg (cellsB (List.replicate 32 0)), .int .i64 10])) w' :=
  ⟨hb, _, 10, by simp, rfl, Or.inr ⟨h, rfl, rfl⟩⟩
set_option maxHeartbeats 2000000 in
set_option maxRecDepth 100000 in
theorem parse_any (s : ByteArray) (w : World) (hT : Tails w) (hs : s.size ≤ 70368744177000) :
    Calls Tryd.prog 24 #[.string s] w (ParsePost s w) := by
  have HT := Lib.hid hT
  have LS := Lib.hid hs
  clear hT hs
  have HW : Hid (Below w.heap.size w (w.alloc (.cells (cellsB (List.replicate 32 0)) 42))) := (Below.refl _ w).alloc (Nat.le_refl _) _
  have HB : Hid (Blk (w.alloc (.cells (cellsB (List.replicate 32 0)) 42)) w.heap.size 42 (cellsB (List.replicate 32 0))) := Blk.new w 42 _
  go_enter Tryd.func24, Tryd.ntmps24
  go_wp2_with fail
  change Calls _ _ _ (w.alloc (.cells (cellsB (List.replicate 32 0)) 42)) _
  refine (decode_text s _ (HT.out.below HW.out) LS.out).mono ?_
  rintro e w2 ⟨v, acc, n, rfl, hd, hb⟩
  have HW2 := Lib.hid (below_step' HW.out hb)
  have HB2 := Lib.hid (Blk.below HB.out hb (by simp))
  clear HW HB hb
  rcases hd with ⟨hown, ⟨henc, rfl⟩ | ⟨hno, rfl, rfl⟩⟩
  · obtain ⟨A, c, rfl, hc, hr⟩ := own_readsB hown
    by_cases h32 : acc.length = 32
    · obtain ⟨ad, rfl, hcell⟩ := hr (by omega)
      have hoff : ∃ g, ad = ⟨g, 0, none⟩ := by
        rcases hown.2 with ⟨h1, h2⟩ | ⟨g, cap, cur, h1, _⟩
        · omega
        · injection h1 with h1 h2 h3
          injection h1 with h1
          exact ⟨g, h1⟩
      obtain ⟨g, rfl⟩ := hoff
      have HR : Hid (w2.rangeAt g 0 (Lib.byteCells acc)) := by
        intro j u hj
        simp [Lib.byteCells] at hj
        obtain ⟨b, hb, rfl⟩ := hj
        have := hcell j b hb
        rw [Addr.add_mid] at this
        exact this
      have HE := Lib.hid henc
      have HL : Hid ((Lib.byteCells acc).length = 32) := by rw [Hid, Lib.byteCells_length]; exact h32
      have H32 := Lib.hid h32
      rw [h32]
      have hcv : (Instr.arrayAt 42 (.slice (some ⟨g, 0, none⟩) 32 c)).run Tryd.prog w2 = .ok (.pointer (some ⟨g, 0, none⟩)) w2 := by
        simp [Instr.arrayAt, run_underlying Tryd.underlying42]
      clear henc hown hcell hr hc h32
      go_wp2_with (first
        | (refine wpList_load_mid rfl 42 (.tmp 22) rfl g 0 rfl (Lib.byteCells acc) _ HR.out Tryd.underlying42 rfl (by rw [HL.out]; kernel_rfl) ?_)
        | (refine wpList_store_row rfl 42 (.tmp 2) (.tmp 23) rfl w.heap.size (cellsB acc) rfl rfl 42 _ HB2.out (by rw [cellsB_size, H32.out]; kernel_rfl) (by rw [cellsB_size acc, H32.out]; rfl) (cellsB_one _) ?_))
      refine bodyPost_ret (results_row_tmp rfl _ _ w.heap.size 42 (cellsB acc) _ _ rfl (Blk.row HB2.out _) Tryd.underlying42 rfl (by rw [cellsB_size, H32.out]; kernel_rfl)) rfl ?_
      exact ⟨below_setRow HW2.out (Nat.le_refl _) _, acc, 0, H32.out, rfl, Or.inl ⟨HE.out, rfl⟩⟩
    · have HN : Hid (∀ b, b.length = 32 → enc b ≠ s.data.toList) := fun b hb he => h32 (by rw [enc_inj acc b (henc.trans he.symm)]; exact hb)
      have hne : ((acc.length : Int) != 32) = true := by rw [bne_iff_ne]; omega
      clear henc hown hr hc h32
      go_wp2_with (refine wpList_store_row rfl 42 (.tmp 2) (.tmp 20) rfl w.heap.size (cellsB (List.replicate 32 0)) rfl rfl 42 _ HB2.out (by kernel_rfl) (by rfl) (cellsB_one _) ?_)
      refine bodyPost_ret (results_row_tmp rfl _ _ w.heap.size 42 _ _ _ rfl (Blk.row HB2.out _) Tryd.underlying42 rfl (by kernel_rfl)) rfl ?_
      exact ret_none s w _ (below_setRow HW2.out (Nat.le_refl _) _) HN.out
  · have HN := Lib.hid hno
    clear hno hown
    go_wp2_with (refine wpList_store_row rfl 42 (.tmp 2) (.tmp 14) rfl w.heap.size (cellsB (List.replicate 32 0)) rfl rfl 42 _ HB2.out (by kernel_rfl) (by rfl) (cellsB_one _) ?_)
    refine bodyPost_ret (results_row_tmp rfl _ _ w.heap.size 42 _ _ _ rfl (Blk.row HB2.out _) Tryd.underlying42 rfl (by kernel_rfl)) rfl ?_
    exact ret_none s w _ (below_setRow HW2.out (Nat.le_refl _) _) (fun b _ => HN.out b)
end Go.Proofs.YtmaknbcfnigbmaaDoor

namespace Go.Proofs.YtmaknbcfnigbmaaDoor
open Go.RowKit
section
variable {P : Program} {e : TypeId}
theorem eq_items (he : P.underlying e = some (.int .u8)) (hag : ∀ w, (isAgg e).run P w = .ok false w) (a b : List UInt8) (d : Nat) (w : World) : ∀ is : List Nat, (∀ i ∈ is, i < a.length ∧ i < b.length) →
    (Op.eqItems (d + 1) e 1 (cellsB a) (cellsB b) is).run P w = .ok (is.all fun i => a.getD i 0 == b.getD i 0) w
  | [], _ => by simp [Op.eqItems]
  | i :: is, h => by
    obtain ⟨h1, h2⟩ := h i (by simp)
    have ih := eq_items he hag a b d w is (fun j hj => h j (List.mem_cons_of_mem _ hj))
    have p1 : (part e (cellsB a) (i * 1)).run P w = .ok (.int .u8 (a[i].toNat : Int)) w := by
      simp [part, hag, Nat.mul_one, cellsB_get a i h1, go_sem]
    have p2 : (part e (cellsB b) (i * 1)).run P w = .ok (.int .u8 (b[i].toNat : Int)) w := by
      simp [part, hag, Nat.mul_one, cellsB_get b i h2, go_sem]
    have p3 : (Op.equalIn (d + 1) e (.int .u8 (a[i].toNat : Int)) (.int .u8 (b[i].toNat : Int))).run P w = .ok (a[i] == b[i]) w := by
      have : ((a[i].toNat : Int) == (b[i].toNat : Int)) = (a[i] == b[i]) := by
        rw [Bool.eq_iff_iff, beq_iff_eq, beq_iff_eq]
        exact ⟨fun h => UInt8.toNat_inj.1 (by omega), fun h => by rw [h]⟩
      simp [Op.equalIn, run_underlying he, this]
    simp only [Op.eqItems, Sem.run_bind, p1, p2, p3, Result.andThen_ok]
    have g1 : a.getD i 0 = a[i] := by simp [List.getD, h1]
    have g2 : b.getD i 0 = b[i] := by simp [List.getD, h2]
    rw [List.all_cons, g1, g2]
    cases hc : (a[i] == b[i])
    · simp
    · simpa using ih
theorem all_range (a b : List UInt8) (n : Nat) (ha : a.length = n) (hb : b.length = n) : ((List.range n).all fun i => a.getD i 0 == b.getD i 0) = (a == b) := by
  rw [Bool.eq_iff_iff, List.all_eq_true, beq_iff_eq]
  constructor
  · intro h
    apply List.ext_getElem (by omega)
    intro i h1 h2
    have := h i (List.mem_range.2 (by omega))
    simpa [List.getD, h1, h2] using this
  · rintro rfl i _
    simp
theorem run_equal_bytes {t : TypeId} {n : Nat} {i : TypeInfo} (ht : P.underlying t = some (.array n e)) (hi : P.info? e = some i) (hce : P.cellsOf e = 1) (he : P.underlying e = some (.int .u8)) (hag : ∀ w, (isAgg e).run P w = .ok false w)
    (a b : List UInt8) (ha : a.length = n) (hb : b.length = n) (w : World) : (Op.equal t (.agg (cellsB a)) (.agg (cellsB b))).run P w = .ok (a == b) w := by
  show (Op.equalIn 10000 t _ _).run P w = _
  rw [run_equalIn_array w 9999 _ _ ht hi, hce, eq_items he hag a b 9998 w _ (fun i hi => ⟨by rw [ha]; exact List.mem_range.1 hi, by rw [hb]; exact List.mem_range.1 hi⟩), all_range a b n ha hb]
end
end Go.Proofs.YtmaknbcfnigbmaaDoor
