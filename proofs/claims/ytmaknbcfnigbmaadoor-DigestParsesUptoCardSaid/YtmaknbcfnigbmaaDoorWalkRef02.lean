/- The reference's Short of layer 2, walked. -/
import Derived.Test.YtmaknbcfnigbmaaDoorWalkDigest
import Derived.Deep.CutBlock
import Derived.Deep.DeepCutAuto
namespace Go.Proofs.YtmaknbcfnigbmaaDoor
open Go.RowKit Sig Go.Proofs.YtmaknbcfnigbmaaDoorW.PrintWords

theorem made_zero (n : Nat) : madeCells (Value.int .u8 0).cells (n * 1) = cellsB (List.replicate n 0) := by
  apply Array.toList_inj.1
  rw [Nat.mul_one]
  show (madeCells #[.int .u8 0] n).toList = _
  rw [toList_madeCells_one]
  simp [cellsB]
theorem make_zeros (n : Nat) (hn : n ≤ 1048576) (w : World) : (Instr.makeSlice 22 (.int .i64 (n : Int)) (.int .i64 (n : Int))).run Tryd.prog w = .ok (.slice (some ⟨w.heap.size, 0, none⟩) n n) (w.alloc (.cells (cellsB (List.replicate n 0)) 5)) := by
  obtain ⟨i0, hi, hz0, hz1, hz2⟩ := info_parts info8'
  have := run_makeSlice w (P := Tryd.prog) 22 5 i0 (.int .u8 0) Tryd.underlying22 hi hz0 .i64 .i64 (n : Int) (n : Int) (by omega) (by omega) (by rw [hz1]; omega) (by rw [hz2]; omega) (by omega)
  rw [this, hz1, Int.toNat_natCast, made_zero]

set_option maxHeartbeats 2000000 in
set_option maxRecDepth 100000 in
theorem refShort_any (l : List UInt8) (hl : l.length = 32) (w : World) :
    Calls Tryd.prog 28 #[.agg (cellsB l)] w fun e w' => ∃ u : ByteArray, e = .returned (.string u) ∧ u.toList = enc (fold l 32) ∧ Below w.heap.size w w' := by
  have hsz : (cellsB l).size = 32 := by rw [cellsB_size, hl]
  have HS := Lib.hid hsz
  have HL := Lib.hid hl
  have HBl := Lib.hid ((Blk.new w 41 (cellsB l)).alloc (.cells (cellsB (List.replicate 20 0)) 5))
  have HBz := Lib.hid (blk_alloc2 w (.cells (cellsB l) 41) 5 (cellsB (List.replicate 20 0)))
  have HW0 : Hid (Below w.heap.size w ((w.alloc (.cells (cellsB l) 41)).alloc (.cells (cellsB (List.replicate 20 0)) 5))) := ((Below.refl _ w).alloc (Nat.le_refl _) _).alloc (by simp) _
  have hmk : (Instr.makeSlice 22 (.int .i64 20) (.int .i64 20)).run Tryd.prog (w.alloc (.cells (cellsB l) 41)) = .ok (.slice (some ⟨w.heap.size + 1, 0, none⟩) 20 20) ((w.alloc (.cells (cellsB l) 41)).alloc (.cells (cellsB (List.replicate 20 0)) 5)) := by
    have h := make_zeros 20 (by decide) (w.alloc (.cells (cellsB l) 41))
    rw [World.size_alloc] at h
    exact h
  clear hsz hl
  go_enter Tryd.func28, Tryd.ntmps28
  go_wp2_with fail
  go_loopw [4] (fun t4 wr => ∃ k : Nat, t4 = .int .i64 k ∧ k ≤ 32 ∧ Hid (Blk wr w.heap.size 41 (cellsB l)) ∧ Hid (Blk wr (w.heap.size + 1) 5 (cellsB (fold l k))) ∧ Hid (Below w.heap.size w wr)) (fun t4 _ => 32 - (intOf t4).toNat)
  case atStart => exact ⟨0, rfl, by omega, HBl, HBz, HW0⟩
  case round =>
    clear HBl HBz HW0 hmk
    obtain ⟨k, rfl, hk, HA, HB, HW⟩ := hrel
    by_cases hlt : k < 32
    · have hll := HL.out
      have hm : k % 20 < 20 := Nat.mod_lt _ (by decide)
      have hc1 := (Blk.cell HA.out k).trans (cellsB_get l k (by omega))
      have hc2 := (Blk.cell HB.out (k % 20)).trans (cellsB_get _ (k % 20) (by rw [fold_length]; exact hm))
      have hf := Blk.frozen HB.out (k % 20)
      have hx : bits BinOp.xor IntKind.u8 ((fold l k)[k % 20]'(by rw [fold_length]; exact hm)).toNat l[k].toNat = (((fold l k)[k % 20]'(by rw [fold_length]; exact hm) ^^^ l[k]).toNat : Int) := by
        rw [u8_xor_nat _ _ (UInt8.toNat_lt _) (UInt8.toNat_lt _), UInt8.toNat_xor]
      have hstep : (fold l k).set (k % 20) ((fold l k)[k % 20]'(by rw [fold_length]; exact hm) ^^^ l[k]) = fold l (k + 1) := by
        simp only [fold]
        rw [getD_at _ _ (by rw [fold_length]; exact hm), getD_at _ _ (by omega)]
      have HX := Lib.hid hx
      have HST := Lib.hid hstep
      have htm : (k : Int).tmod 20 = ((k % 20 : Nat) : Int) := by rw [Int.tmod_eq_emod_of_nonneg (by omega)]; omega
      have hk0 : (0 : Int) ≤ (k : Int) := by omega
      have hk1 : (k : Int) < 32 := by omega
      have hm0 : (0 : Int) ≤ ((k % 20 : Nat) : Int) := by omega
      have hm1 : ((k % 20 : Nat) : Int) < 20 := by omega
      clear hx hstep
      go_upto_region 5 with (fail)
      go_region
      go_wp2_with fail
      go_roundw
      case rel =>
        refine ⟨k + 1, by go_num, by omega, Blk.far (p := ⟨w.heap.size + 1, k % 20, none⟩) HA.out (by simp) _, ?_, below_drew1 (HW.out.setCell (p := ⟨w.heap.size + 1, k % 20, none⟩) (by simp) _)⟩
        rw [HX.out, ← HST.out, ← cellsB_set]
        exact Blk.set_ HB.out _ _
      case measure => simp [intOf]; omega
    · obtain rfl : k = 32 := by omega
      have hlf := fold_length l 32
      have HLF := Lib.hid hlf
      clear hlf
      have he := refEncode_str (some ⟨w.heap.size + 1, 0, none⟩) (fold l 32) 20 wr (Blk.reads HB.out) (by rw [HLF.out]; decide) (by rw [HLF.out]; decide)
      rw [HLF.out] at he
      have HE := Lib.hid he
      clear he
      go_wp2_with fail
      refine HE.out.mono ?_
      rintro e w2 ⟨u, rfl, hu, hb⟩
      have HU := Lib.hid hu
      have HBB := Lib.hid hb
      clear hu hb
      go_wp2_with fail
      go_ret
      exact ⟨u, rfl, HU.out, below_step' HW.out HBB.out⟩
end Go.Proofs.YtmaknbcfnigbmaaDoor
