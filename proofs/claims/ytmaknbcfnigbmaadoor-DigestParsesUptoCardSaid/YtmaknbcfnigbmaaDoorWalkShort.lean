/- digest.Short, walked: it tells the signs of a digest's bytes, laid over one another twenty wide. -/
import Derived.Test.YtmaknbcfnigbmaaDoorWalkEncode
import Derived.Test.YtmaknbcfnigbmaaDoorArr
import Derived.Laws.Rows
namespace Go.Proofs.YtmaknbcfnigbmaaDoor
open Go.RowKit Sig

/-- The first k bytes laid over one another, twenty wide. -/
def fold : List UInt8 → Nat → List UInt8
  | _, 0 => List.replicate 20 0
  | l, k + 1 => (fold l k).set (k % 20) ((fold l k).getD (k % 20) 0 ^^^ l.getD k 0)
theorem getD_at (l : List UInt8) (i : Nat) (h : i < l.length) : l.getD i 0 = l[i] := by simp [List.getD, h]
theorem fold_length (l : List UInt8) (k : Nat) : (fold l k).length = 20 := by
  induction k with
  | zero => simp [fold]
  | succ k ih => simp [fold, ih]

set_option maxHeartbeats 1000000 in
theorem short_any (l : List UInt8) (hl : l.length = 32) (w : World) :
    Calls Tryd.prog 27 #[.agg (cellsB l)] w fun e w' => e = .returned (.string ⟨(enc (fold l 32)).toArray⟩) ∧ Below w.heap.size w w' := by
  have hsz : (cellsB l).size = 32 := by rw [cellsB_size, hl]
  have HS := Lib.hid hsz
  have HL := Lib.hid hl
  have hlge : 32 ≤ l.length := by omega
  clear hsz hl
  go_enter Tryd.func27, Tryd.ntmps27
  go_wp2_with (refine wpList_load_row rfl 42 (.tmp 1) rfl w.heap.size rfl 42 (cellsB l) (0, 0) _ ((Blk.new w 42 (cellsB l)).alloc _) Tryd.underlying42 rfl (by rw [HS.out]; kernel_rfl) ?_)
  go_loopw [7] (fun t7 wr => ∃ (k : Nat), t7 = .int .i64 k ∧ k ≤ 32 ∧ Hid (Blk wr (w.heap.size + 1) 85 (cellsB (fold l k))) ∧ Hid (Below w.heap.size w wr)) (fun t7 _ => 32 - (intOf t7).toNat)
  case atStart =>
    refine ⟨0, rfl, by omega, ?_, ((Below.refl _ w).alloc (Nat.le_refl _) _).alloc (by simp) _⟩
    have h := Blk.new (w.alloc (.cells (cellsB l) 42)) 85 (cellsB (List.replicate 20 0))
    simp only [World.size_alloc] at h
    exact h
  case round =>
    obtain ⟨k, rfl, hk, HB, HW⟩ := hrel
    by_cases hlt : k < 32
    · have hix := fun w => run_index_one (P := Tryd.prog) (k := .i64) Tryd.underlying42 Tryd.isAgg5 Tryd.sizeOf5 (cellsB l) k _ hlt (cellsB_get l k (by omega)) w
      have hm : k % 20 < 20 := Nat.mod_lt _ (by decide)
      have hc := (Blk.cell HB.out (k % 20)).trans (cellsB_get _ (k % 20) (by rw [fold_length]; exact hm))
      have hf := Blk.frozen HB.out (k % 20)
      have hx : bits BinOp.xor IntKind.u8 ((fold l k)[k % 20]'(by rw [fold_length]; exact hm)).toNat l[k].toNat = (((fold l k)[k % 20]'(by rw [fold_length]; exact hm) ^^^ l[k]).toNat : Int) := by
        rw [u8_xor_nat _ _ (UInt8.toNat_lt _) (UInt8.toNat_lt _), UInt8.toNat_xor]
      have hstep : (fold l k).set (k % 20) ((fold l k)[k % 20]'(by rw [fold_length]; exact hm) ^^^ l[k]) = fold l (k + 1) := by
        simp only [fold]
        rw [getD_at _ _ (by rw [fold_length]; exact hm), getD_at _ _ (by omega)]
      have HX := Lib.hid hx
      have HST := Lib.hid hstep
      clear hx hstep
      go_wp2_with fail
      go_roundw
      case rel =>
        refine ⟨k + 1, by go_num, by omega, ?_, HW.out.setCell (p := ⟨w.heap.size + 1, k % 20, none⟩) (by simp) _⟩
        rw [HX.out, ← HST.out, ← cellsB_set]
        exact Blk.set_ HB.out _ _
      case measure => simp [intOf]; omega
    · obtain rfl : k = 32 := by omega
      have hlf := fold_length l 32
      have HLF := Lib.hid hlf
      clear hlf
      have hsh : wr.shape? (w.heap.size + 1) = some (85, 20) := by
        have h := HB.out
        unfold Blk at h
        simp [World.shape?, h, cellsB_size, fold_length]
      have he := encode_any (some ⟨w.heap.size + 1, 0, none⟩) (fold l 32) 20 wr (Blk.reads HB.out) (by rw [HLF.out]; decide)
      rw [HLF.out] at he
      have HE := Lib.hid he
      clear he
      go_wp2_with fail
      refine HE.out.mono ?_
      rintro e w2 ⟨rfl, hb⟩
      go_wp2_with fail
      go_ret
      exact ⟨rfl, below_step' HW.out hb⟩
end Go.Proofs.YtmaknbcfnigbmaaDoor
