/- The reference's Short of layer 2, walked. The reference's Parse of layer 2, walked. -/
import Derived.Test.YtmaknbcfnigbmaaDoorDig
import Derived.Deep.CutBlock
import Derived.Deep.DeepCutAuto
namespace Go.Proofs.YtmaknbcfnigbmaaDoor
open Go.RowKit Sig Go.Proofs.YtmaknbcfnigbmaaDoorW.PrintWords

theorem made_zero (n : Nat) : madeCells (Value.int .u8 0).cells (n * 1) = cellsB (List.replicate n 0) := by
  apply Array.toList_inj.1
  rw [Nat.mul_one]
  show (madeCells #[.int .u8 0] n).toList = _
  rw [toList_madeCells_one]
  simp [cellsB]
theorem make_zeros (n : Nat) (hn : n ≤ 1048576) (w : World) : (Instr.makeSlice 22 (.int .i64 (n : Int)) (.int .i64 (n : Int))).run Tryd.prog w = .ok (.slice (some ⟨w.heap.size, 0, none⟩) n n) (w.alloc (.cells (cellsB (List.replicate n 0)) 5)) := by
  obtain ⟨i0, hi, hz0, hz1, hz2⟩ := info_parts info8'
  have := run_makeSlice w (P := Tryd.prog) 22 5 i0 (.int .u8 0) Tryd.underlying22 hi hz0 .i64 .i64 (n : Int) (n : Int) (by omega) (by omega) (by rw [hz1]; omega) (by rw [hz2]; omega) (by omega)
  rw [this, hz1, Int.toNat_natCast, made_zero]

set_option maxHeartbeats 2000000 in
set_option maxRecDepth 100000 in
theorem refShort_any (l : List UInt8) (hl : l.length = 32) (w : World) :
    Calls Tryd.prog 28 #[.agg (cellsB l)] w fun e w' => ∃ u : ByteArray, e = .returned (.string u) ∧ u.toList = enc (fold l 32) ∧ Below w.heap.size w w' := by
  have hsz : (cellsB l).size = 32 := by rw [cellsB_size, hl]
  have HS := Lib.hid hsz
  have HL := Lib.hid hl
  have HBl := Lib.hid ((Blk.new w 41 (cellsB l)).alloc (.cells (cellsB (List.replicate 20 0)) 5))
  have HBz := Lib.hid (blk_alloc2 w (.cells (cellsB l) 41) 5 (cellsB (List.replicate 20 0)))
  have HW0 : Hid (Below w.heap.size w ((w.alloc (.cells (cellsB l) 41)).alloc (.cells (cellsB (List.replicate 20 0)) 5))) := ((Below.refl _ w).alloc (Nat.le_refl _) _).alloc (by simp) _
  have hmk : (Instr.makeSlice 22 (.int .i64 20) (.int .i64 20)).run Tryd.prog (w.alloc (.cells (cellsB l) 41)) = .ok (.slice (some ⟨w.heap.size + 1, 0, none⟩) 20 20) ((w.alloc (.cells (cellsB l) 41)).alloc (.cells (cellsB (List.replicate 20 0)) 5)) := by
    have h := make_zeros 20 (by decide) (w.alloc (.cells (cellsB l) 41))
    rw [World.size_alloc] at h
    exact h
  clear hsz hl
  go_enter Tryd.func28, Tryd.ntmps28
  go_wp2_with fail
  go_loopw [4] (fun t4 wr => ∃ k : Nat, t4 = .int .i64 k ∧ k ≤ 32 ∧ Hid (Blk wr w.heap.size 41 (cellsB l)) ∧ Hid (Blk wr (w.heap.size + 1) 5 (cellsB (fold l k))) ∧ Hid (Below w.heap.size w wr)) (fun t4 _ => 32 - (intOf t4).toNat)
  case atStart => exact ⟨0, rfl, by omega, HBl, HBz, HW0⟩
  case round =>
    clear HBl HBz HW0 hmk
    obtain ⟨k, rfl, hk, HA, HB, HW⟩ := hrel
    by_cases hlt : k < 32
    · have hll := HL.out
      have hm : k % 20 < 20 := Nat.mod_lt _ (by decide)
      have hc1 := (Blk.cell HA.out k).trans (cellsB_get l k (by omega))
      have hc2 := (Blk.cell HB.out (k % 20)).trans (cellsB_get _ (k % 20) (by rw [fold_length]; exact hm))
      have hf := Blk.frozen HB.out (k % 20)
      have hx : bits BinOp.xor IntKind.u8 ((fold l k)[k % 20]'(by rw [fold_length]; exact hm)).toNat l[k].toNat = (((fold l k)[k % 20]'(by rw [fold_length]; exact hm) ^^^ l[k]).toNat : Int) := by
        rw [u8_xor_nat _ _ (UInt8.toNat_lt _) (UInt8.toNat_lt _), UInt8.toNat_xor]
      have hstep : (fold l k).set (k % 20) ((fold l k)[k % 20]'(by rw [fold_length]; exact hm) ^^^ l[k]) = fold l (k + 1) := by
        simp only [fold]
        rw [getD_at _ _ (by rw [fold_length]; exact hm), getD_at _ _ (by omega)]
      have HX := Lib.hid hx
      have HST := Lib.hid hstep
      have htm : (k : Int).tmod 20 = ((k % 20 : Nat) : Int) := by rw [Int.tmod_eq_emod_of_nonneg (by omega)]; omega
      have hk0 : (0 : Int) ≤ (k : Int) := by omega
      have hk1 : (k : Int) < 32 := by omega
      have hm0 : (0 : Int) ≤ ((k % 20 : Nat) : Int) := by omega
      have hm1 : ((k % 20 : Nat) : Int) < 20 := by omega
      clear hx hstep
      go_upto_region 5 with (fail)
      go_region
      go_wp2_with fail
      go_roundw
      case rel =>
        refine ⟨k + 1, by go_num, by omega, Blk.far (p := ⟨w.heap.size + 1, k % 20, none⟩) HA.out (by simp) _, ?_, below_drew1 (HW.out.setCell (p := ⟨w.heap.size + 1, k % 20, none⟩) (by simp) _)⟩
        rw [HX.out, ← HST.out, ← cellsB_set]
        exact Blk.set_ HB.out _ _
      case measure => simp [intOf]; omega
    · obtain rfl : k = 32 := by omega
      have hlf := fold_length l 32
      have HLF := Lib.hid hlf
      clear hlf
      have he := refEncode_str (some ⟨w.heap.size + 1, 0, none⟩) (fold l 32) 20 wr (Blk.reads HB.out) (by rw [HLF.out]; decide) (by rw [HLF.out]; decide)
      rw [HLF.out] at he
      have HE := Lib.hid he
      clear he
      go_wp2_with fail
      refine HE.out.mono ?_
      rintro e w2 ⟨u, rfl, hu, hb⟩
      have HU := Lib.hid hu
      have HBB := Lib.hid hb
      clear hu hb
      go_wp2_with fail
      go_ret
      exact ⟨u, rfl, HU.out, below_step' HW.out HBB.out⟩
end Go.Proofs.YtmaknbcfnigbmaaDoor

namespace Go.Proofs.YtmaknbcfnigbmaaDoor
open Go.RowKit Sig Go.Proofs.YtmaknbcfnigbmaaDoorW.PrintWords

/-- The first k bytes laid. -/
def laidB (acc : List UInt8) (k : Nat) : List UInt8 := acc.take k ++ List.replicate (32 - k) 0
theorem laidB_zero (acc : List UInt8) : laidB acc 0 = List.replicate 32 0 := by simp [laidB]
theorem laidB_full (acc : List UInt8) (h : acc.length = 32) : laidB acc 32 = acc := by simp [laidB, ← h]
theorem laidB_length (acc : List UInt8) (k : Nat) (h : acc.length = 32) (hk : k ≤ 32) : (laidB acc k).length = 32 := by simp [laidB]; omega
theorem laidB_step (acc : List UInt8) (k : Nat) (h : acc.length = 32) (hk : k < 32) : (laidB acc k).set k (acc[k]'(by omega)) = laidB acc (k + 1) := by
  unfold laidB
  have e : List.replicate (32 - k) (0 : UInt8) = 0 :: List.replicate (32 - (k + 1)) 0 := by
    rw [show 32 - k = (32 - (k + 1)) + 1 by omega, List.replicate_succ]
  have hl : (acc.take k).length = k := by rw [List.length_take]; omega
  rw [e, List.set_append_right _ _ (by omega), hl, Nat.sub_self, List.set_cons_zero, List.take_succ_eq_append_getElem (by omega), List.append_assoc]
  rfl

set_option maxHeartbeats 2000000 in
set_option maxRecDepth 100000 in
theorem refParse_any (s : ByteArray) (w : World) (hs : s.size ≤ 70368744177000) :
    Calls Tryd.prog 25 #[.string s] w (ParsePost s w) := by
  have LS := Lib.hid hs
  clear hs
  have HW : Hid (Below w.heap.size w ((w.alloc (.cells (cellsB (List.replicate 32 0)) 41)).alloc (.cells (cellsB (List.replicate 32 0)) 41))) := ((Below.refl _ w).alloc (Nat.le_refl _) _).alloc (by simp) _
  have HB := Lib.hid ((Blk.new w 41 (cellsB (List.replicate 32 0))).alloc (.cells (cellsB (List.replicate 32 0)) 41))
  have HC := Lib.hid (blk_alloc2 w (.cells (cellsB (List.replicate 32 0)) 41) 41 (cellsB (List.replicate 32 0)))
  go_enter Tryd.func25, Tryd.ntmps25
  go_wp2_with fail
  change Calls _ _ _ ((w.alloc (.cells (cellsB (List.replicate 32 0)) 41)).alloc (.cells (cellsB (List.replicate 32 0)) 41)) _
  refine (refDecode_text s _ LS.out).mono ?_
  rintro e w2 ⟨v, acc, n, rfl, hd, hb⟩
  have HW2 := Lib.hid (below_step' HW.out hb)
  have HB2 := Lib.hid (Blk.below HB.out hb (by simp; omega))
  have HC2 := Lib.hid (Blk.below HC.out hb (by simp))
  have hz32 : (cellsB (List.replicate 32 0)).size = 32 := by kernel_rfl
  clear HW HB HC hb
  rcases hd with ⟨hown, ⟨henc, rfl⟩ | ⟨hno, rfl, rfl⟩⟩
  · obtain ⟨A, c, rfl, hc, hr⟩ := own_readsB hown
    by_cases h32 : acc.length = 32
    · obtain ⟨ad, rfl, hcell⟩ := hr (by omega)
      have hoff : ∃ g, ad = ⟨g, 0, none⟩ ∧ w.heap.size + 2 ≤ g := by
        rcases hown.2 with ⟨h1, h2⟩ | ⟨g, cap, cur, h1, hgb, _⟩
        · omega
        · injection h1 with h1 h2 h3
          injection h1 with h1
          exact ⟨g, h1, by simpa using hgb⟩
      obtain ⟨g, rfl, hg⟩ := hoff
      have HR : Hid (∀ k (h : k < acc.length), w2.cell? ⟨g, k, none⟩ = some (.int .u8 (acc[k].toNat : Int))) := by
        intro k hk
        have := hcell k _ (List.getElem?_eq_getElem hk)
        rw [Addr.add_mid, Nat.zero_add] at this
        exact this
      have HE := Lib.hid henc
      have H32 := Lib.hid h32
      have HG := Lib.hid hg
      rw [h32]
      clear henc hown hcell hr hc h32 hg
      go_upto_region 8 with (fail)
      go_loopw [7] (fun t7 wr => ∃ k : Nat, t7 = .int .i64 k ∧ k ≤ 32 ∧ Hid (Blk wr w.heap.size 41 (cellsB (List.replicate 32 0))) ∧ Hid (Blk wr (w.heap.size + 1) 41 (cellsB (laidB acc k))) ∧ Hid (∀ k (h : k < acc.length), wr.cell? ⟨g, k, none⟩ = some (.int .u8 (acc[k].toNat : Int))) ∧ Hid (Below w.heap.size w wr)) (fun t7 _ => 32 - (intOf t7).toNat)
      case atStart => exact ⟨0, rfl, by omega, HB2.out, by rw [laidB_zero]; exact HC2.out, HR, HW2⟩
      case round =>
        clear HB2 HC2 HW2 HR
        obtain ⟨k, rfl, hk, LA, LB, LR, LW⟩ := hrel
        by_cases hlt : k < 32
        · have hkl : k < acc.length := by rw [H32.out]; exact hlt
          have hkl2 : k < (laidB acc k).length := by rw [laidB_length acc k H32.out hk]; exact hlt
          have hc1 := LR.out k hkl
          have hc2 := (Blk.cell LB.out k).trans (cellsB_get _ k hkl2)
          have hf := Blk.frozen LB.out k
          have HST := Lib.hid (laidB_step acc k H32.out hlt)
          have HNE : Hid (g ≠ w.heap.size + 1) := by have := HG.out; rw [Hid]; omega
          go_wp2_with fail
          go_roundw
          case rel =>
            refine ⟨k + 1, by go_num, by omega, Blk.far (p := ⟨w.heap.size + 1, k, none⟩) LA.out (by simp) _, ?_, ?_, LW.out.setCell (p := ⟨w.heap.size + 1, k, none⟩) (by simp) _⟩
            · rw [← HST.out, ← cellsB_set]
              exact Blk.set_ LB.out _ _
            · intro j hj
              exact (World.cell?_setCell_far wr ⟨w.heap.size + 1, k, none⟩ ⟨g, j, none⟩ _ (fun e => HNE.out e.symm)).trans (LR.out j hj)
          case measure => simp [intOf]; omega
        · obtain rfl : k = 32 := by omega
          have HF := Lib.hid (laidB_full acc H32.out)
          have LB' : Hid (Blk wr (w.heap.size + 1) 41 (cellsB acc)) := by have h := LB.out; rw [HF.out] at h; exact h
          clear LB HF
          have HSA : Hid ((cellsB acc).size = 32) := by rw [Hid, cellsB_size]; exact H32.out
          go_wp2_with (first
            | (refine wpList_load_row rfl 41 (.tmp 4) rfl (w.heap.size + 1) rfl 41 (cellsB acc) (0, 0) _ LB'.out Tryd.underlying41 rfl (by rw [HSA.out]; kernel_rfl) ?_)
            | (refine wpList_store_row rfl 41 (.tmp 2) (.tmp 31) rfl w.heap.size (cellsB acc) rfl rfl 41 _ LA.out (by rw [HSA.out]; kernel_rfl) (by rw [HSA.out]; rfl) (cellsB_one _) ?_))
          refine bodyPost_ret (results_row_tmp rfl _ _ w.heap.size 41 (cellsB acc) _ _ rfl (Blk.row LA.out _) Tryd.underlying41 rfl (by rw [HSA.out]; kernel_rfl)) rfl ?_
          exact ⟨below_setRow LW.out (Nat.le_refl _) _, acc, 0, H32.out, rfl, Or.inl ⟨HE.out, rfl⟩⟩
    · have HN : Hid (∀ b, b.length = 32 → enc b ≠ s.data.toList) := fun b hb he => h32 (by rw [enc_inj acc b (henc.trans he.symm)]; exact hb)
      have hne : ((acc.length : Int) != 32) = true := by rw [bne_iff_ne]; omega
      clear henc hown hr hc h32
      go_wp2_with (first
        | (refine wpList_load_row rfl 41 (.tmp 4) rfl (w.heap.size + 1) rfl 41 (cellsB (List.replicate 32 0)) (0, 0) _ HC2.out Tryd.underlying41 rfl (by kernel_rfl) ?_)
        | (refine wpList_store_row rfl 41 (.tmp 2) (.tmp 20) rfl w.heap.size (cellsB (List.replicate 32 0)) rfl rfl 41 _ HB2.out (by kernel_rfl) (by rfl) (cellsB_one _) ?_))
      refine bodyPost_ret (results_row_tmp rfl _ _ w.heap.size 41 _ _ _ rfl (Blk.row HB2.out _) Tryd.underlying41 rfl (by kernel_rfl)) rfl ?_
      exact ret_none s w _ (below_setRow HW2.out (Nat.le_refl _) _) HN.out
  · have HN := Lib.hid hno
    clear hno hown
    go_wp2_with (first
      | (refine wpList_load_row rfl 41 (.tmp 4) rfl (w.heap.size + 1) rfl 41 (cellsB (List.replicate 32 0)) (0, 0) _ HC2.out Tryd.underlying41 rfl (by kernel_rfl) ?_)
      | (refine wpList_store_row rfl 41 (.tmp 2) (.tmp 15) rfl w.heap.size (cellsB (List.replicate 32 0)) rfl rfl 41 _ HB2.out (by kernel_rfl) (by rfl) (cellsB_one _) ?_))
    refine bodyPost_ret (results_row_tmp rfl _ _ w.heap.size 41 _ _ _ rfl (Blk.row HB2.out _) Tryd.underlying41 rfl (by kernel_rfl)) rfl ?_
    exact ret_none s w _ (below_setRow HW2.out (Nat.le_refl _) _) (fun b _ => HN.out b)
end Go.Proofs.YtmaknbcfnigbmaaDoor
