/- DigestFolds, walked, for each of the three places where the byte may lie. -/
import Derived.Test.YtmaknbcfnigbmaaWalkShort
import Derived.Test.YtmaknbcfnigbmaaSig2

import Derived.Deep.CutBlock
import Derived.Deep.DeepCutAuto
namespace Go.Proofs.Ytmaknbcfnigbmaa
open Go.RowKit Sig

theorem at_index (n : Int) (h1 : -9223372036854775808 ≤ n) (h2 : n ≤ 9223372036854775807) : ∃ a : Nat, a < 32 ∧ (wrap64 (n.tmod 32 + 32)).tmod 32 = (a : Int) := by
  have hb : -32 < n.tmod 32 ∧ n.tmod 32 < 32 := by
    by_cases h0 : 0 ≤ n
    · rw [Int.tmod_eq_emod_of_nonneg h0]; omega
    · have : n.tmod 32 = -((-n) % 32) := by
        rw [← Int.tmod_eq_emod_of_nonneg (by omega), Int.neg_tmod]; omega
      rw [this]; omega
  have hw : wrap64 (n.tmod 32 + 32) = n.tmod 32 + 32 := by unfold wrap64; omega
  rw [hw, Int.tmod_eq_emod_of_nonneg (by omega)]
  exact ⟨((n.tmod 32 + 32) % 32).toNat, by omega, by omega⟩


set_option maxHeartbeats 2000000 in
theorem folds_walk_lo (l x y : List UInt8) (hl : 32 = l.length) (hxl : 32 = x.length) (hyl : 32 = y.length) (at_ : Int) (by_ : UInt8) (w : World) (a : Nat) (ha : a < 32) (hla : a < l.length) (hat : (wrap64 (at_.tmod 32 + 32)).tmod 32 = (a : Int)) (hlo : decide ((a : Int) < 12) = true) (hal : a < 12) (hx2 : a + 20 < x.length)
    (HX : Hid ((cellsB l).setIfInBounds a (.int .u8 (bits BinOp.xor IntKind.u8 (l[a].toNat : Int) (by_.toNat : Int))) = cellsB x)) (HY : Hid ((cellsB x).setIfInBounds (a + 20) (.int .u8 (bits BinOp.xor IntKind.u8 (x[a + 20].toNat : Int) (by_.toNat : Int))) = cellsB y))
    (EX : Hid (((enc (fold x 32)) == enc (fold l 32)) = ((by_.toNat : Int) == 0))) (EY : Hid (enc (fold y 32) = enc (fold l 32))) :
    Calls Try.prog 6 #[.agg (cellsB l), .int .i64 at_, .int .u8 (by_.toNat : Int)] w fun e w' => e = .returned (.bool true) ∧ Below w.heap.size w w' := by
  have HS : Hid (32 = (cellsB l).size) := by rw [cellsB_size]; exact hl
  have HSX : Hid (32 = (cellsB x).size) := by rw [cellsB_size]; exact hxl
  have HSY : Hid (32 = (cellsB y).size) := by rw [cellsB_size]; exact hyl
  have HL := Lib.hid hl
  have HXL := Lib.hid hxl
  have HYL := Lib.hid hyl
  clear hl hxl hyl
  go_enter Try.func6, Try.ntmps6
  go_upto_region 3 with (first
    | (refine wpList_load_row rfl 43 (.tmp 3) rfl w.heap.size rfl 43 (cellsB l) (0, 0) _ (Blk.new w 43 (cellsB l)) Try.underlying43 rfl (by rw [← HS.out]; kernel_rfl) ?_)
    | (refine wpList_store_row rfl 43 (.tmp 7) (.tmp 14) rfl (w.heap.size + 1) (cellsB l) rfl rfl 43 _ (blk_alloc2 w _ 43 _) (by rw [← HS.out]; kernel_rfl) (by rw [← HS.out]; rfl) (cellsB_one l) ?_))
  have A0 := Lib.hid (Blk.rowFar (g' := w.heap.size + 1) (Blk.alloc (Blk.new w 43 (cellsB l)) (.cells (cellsB (List.replicate 32 0)) 43)) (by omega) (cellsB l))
  have A1 := Lib.hid (Blk.row (blk_alloc2 w (.cells (cellsB l) 43) 43 (cellsB (List.replicate 32 0))) (cellsB l))
  have AB := Lib.hid (below_setRow (((Below.refl w.heap.size w).alloc (Nat.le_refl _) (.cells (cellsB l) 43)).alloc (by simp) (.cells (cellsB (List.replicate 32 0)) 43)) (g := w.heap.size + 1) (by omega) (cellsB l))
  have AS : Hid ((((w.alloc (.cells (cellsB l) 43)).alloc (.cells (cellsB (List.replicate 32 0)) 43)).setRow (w.heap.size + 1) (cellsB l)).heap.size = w.heap.size + 2) := by simp [Hid]
  change Code.wp _ _ _ _ (((w.alloc (.cells (cellsB l) 43)).alloc (.cells (cellsB (List.replicate 32 0)) 43)).setRow (w.heap.size + 1) (cellsB l))
  generalize (((w.alloc (.cells (cellsB l) 43)).alloc (.cells (cellsB (List.replicate 32 0)) 43)).setRow (w.heap.size + 1) (cellsB l)) = w1 at *
  have hc1 := (Blk.cell A1.out a).trans (cellsB_get l a hla)
  have hf1 := Blk.frozen A1.out a
  go_upto_region 4 with (fail)
  have B0 := Lib.hid (Blk.far (p := ⟨w.heap.size + 1, a, none⟩) A0.out (by simp) (.int .u8 (bits BinOp.xor IntKind.u8 (l[a].toNat : Int) (by_.toNat : Int))))
  have B1 : Hid (Blk (w1.setCell ⟨w.heap.size + 1, a, none⟩ (.int .u8 (bits BinOp.xor IntKind.u8 (l[a].toNat : Int) (by_.toNat : Int)))) (w.heap.size + 1) 43 (cellsB x)) := by
    have h := Blk.set_ A1.out a (.int .u8 (bits BinOp.xor IntKind.u8 (l[a].toNat : Int) (by_.toNat : Int)))
    rw [HX.out] at h
    exact h
  have BB := Lib.hid (Below.setCell (p := ⟨w.heap.size + 1, a, none⟩) AB.out (by simp) (.int .u8 (bits BinOp.xor IntKind.u8 (l[a].toNat : Int) (by_.toNat : Int))))
  have BS : Hid ((w1.setCell ⟨w.heap.size + 1, a, none⟩ (.int .u8 (bits BinOp.xor IntKind.u8 (l[a].toNat : Int) (by_.toNat : Int)))).heap.size = w.heap.size + 2) := by have := AS.out; simp [Hid, World.setCell]; exact this
  clear A0 A1 AB AS hc1 hf1
  change Code.wp _ _ _ _ (w1.setCell ⟨w.heap.size + 1, a, none⟩ (.int .u8 (bits BinOp.xor IntKind.u8 (l[a].toNat : Int) (by_.toNat : Int))))
  generalize (w1.setCell ⟨w.heap.size + 1, a, none⟩ (.int .u8 (bits BinOp.xor IntKind.u8 (l[a].toNat : Int) (by_.toNat : Int)))) = w2 at *
  have hS2 : w2.heap.size = w.heap.size + 2 := BS.out
  go_upto_region 5 with (first
    | (refine wpList_load_row rfl 43 (.tmp 7) rfl (w.heap.size + 1) rfl 43 (cellsB x) (0, 0) _ B1.out Try.underlying43 rfl (by rw [← HSX.out]; kernel_rfl) ?_)
    | (refine wpList_store_row rfl 43 (.tmp 8) (.tmp 22) rfl (w.heap.size + 2) (cellsB x) rfl rfl 43 _ (by have h := Blk.new w2 43 (cellsB (List.replicate 32 0)); rw [BS.out] at h; exact h) (by rw [← HSX.out]; kernel_rfl) (by rw [← HSX.out]; rfl) (cellsB_one _) ?_))
  have C0 := Lib.hid (Blk.rowFar (g' := w.heap.size + 2) (Blk.alloc B0.out (.cells (cellsB (List.replicate 32 0)) 43)) (by omega) (cellsB x))
  have C1 := Lib.hid (Blk.rowFar (g' := w.heap.size + 2) (Blk.alloc B1.out (.cells (cellsB (List.replicate 32 0)) 43)) (by omega) (cellsB x))
  have C2 : Hid (Blk ((w2.alloc (.cells (cellsB (List.replicate 32 0)) 43)).setRow (w.heap.size + 2) (cellsB x)) (w.heap.size + 2) 43 (cellsB x)) := by
    have h := Blk.new w2 43 (cellsB (List.replicate 32 0))
    rw [BS.out] at h
    exact Blk.row h _
  have CB := Lib.hid (below_setRow (BB.out.alloc (by rw [BS.out]; omega) (.cells (cellsB (List.replicate 32 0)) 43)) (g := w.heap.size + 2) (by omega) (cellsB x))
  clear B0 B1 BB BS hS2
  change Code.wp _ _ _ _ ((w2.alloc (.cells (cellsB (List.replicate 32 0)) 43)).setRow (w.heap.size + 2) (cellsB x))
  generalize ((w2.alloc (.cells (cellsB (List.replicate 32 0)) 43)).setRow (w.heap.size + 2) (cellsB x)) = w3 at *
  have hc2 := (Blk.cell C2.out (a + 20)).trans (cellsB_get x (a + 20) hx2)
  have hf2 := Blk.frozen C2.out (a + 20)
  go_upto_region 10 with (fail)
  have D0 := Lib.hid (Blk.far (p := ⟨w.heap.size + 2, a + 20, none⟩) C0.out (by simp) (.int .u8 (bits BinOp.xor IntKind.u8 (x[a + 20].toNat : Int) (by_.toNat : Int))))
  have D1 := Lib.hid (Blk.far (p := ⟨w.heap.size + 2, a + 20, none⟩) C1.out (by simp) (.int .u8 (bits BinOp.xor IntKind.u8 (x[a + 20].toNat : Int) (by_.toNat : Int))))
  have D2 : Hid (Blk (w3.setCell ⟨w.heap.size + 2, a + 20, none⟩ (.int .u8 (bits BinOp.xor IntKind.u8 (x[a + 20].toNat : Int) (by_.toNat : Int)))) (w.heap.size + 2) 43 (cellsB y)) := by
    have h := Blk.set_ C2.out (a + 20) (.int .u8 (bits BinOp.xor IntKind.u8 (x[a + 20].toNat : Int) (by_.toNat : Int)))
    rw [HY.out] at h
    exact h
  have DB := Lib.hid (Below.setCell (p := ⟨w.heap.size + 2, a + 20, none⟩) CB.out (by simp) (.int .u8 (bits BinOp.xor IntKind.u8 (x[a + 20].toNat : Int) (by_.toNat : Int))))
  clear C0 C1 C2 CB hc2 hf2
  change Code.wp _ _ _ _ (w3.setCell ⟨w.heap.size + 2, a + 20, none⟩ (.int .u8 (bits BinOp.xor IntKind.u8 (x[a + 20].toNat : Int) (by_.toNat : Int))))
  generalize (w3.setCell ⟨w.heap.size + 2, a + 20, none⟩ (.int .u8 (bits BinOp.xor IntKind.u8 (x[a + 20].toNat : Int) (by_.toNat : Int)))) = w4 at *
  go_wp2_with (refine wpList_load_row rfl 43 (.tmp 3) rfl w.heap.size rfl 43 (cellsB l) (0, 0) _ D0.out Try.underlying43 rfl (by rw [← HS.out]; kernel_rfl) ?_)
  refine (short_any l HL.out.symm _).mono ?_
  rintro e w5 ⟨rfl, b5⟩
  have E1 := Lib.hid (Blk.below D1.out b5 (Blk.lt D1.out))
  have E2 := Lib.hid (Blk.below D2.out b5 (Blk.lt D2.out))
  have EB := Lib.hid (below_step' DB.out b5)
  have hs32 : (enc (fold l 32)).length = 32 := by rw [enc_length, fold_length]
  clear D0 D1 D2 DB b5
  go_wp2_with (refine wpList_load_row_if (by rfl) 43 (.tmp 7) rfl (w.heap.size + 1) rfl 43 (cellsB x) (0, 0) _ E1.out Try.underlying43 rfl (by rw [← HSX.out]; kernel_rfl) ?_)
  refine (short_any x HXL.out.symm _).mono ?_
  rintro e w6 ⟨rfl, b6⟩
  have F2 := Lib.hid (Blk.below E2.out b6 (Blk.lt E2.out))
  have FB := Lib.hid (below_step' EB.out b6)
  clear E1 E2 EB b6
  have ex := EX.out
  go_wp2_with (refine wpList_load_row_if (by rfl) 43 (.tmp 8) rfl (w.heap.size + 2) rfl 43 (cellsB y) (0, 0) _ F2.out Try.underlying43 rfl (by rw [← HSY.out]; kernel_rfl) ?_)
  refine (short_any y HYL.out.symm _).mono ?_
  rintro e w7 ⟨rfl, b7⟩
  have ey := EY.out
  go_wp2_with fail
  go_ret
  exact ⟨by first | rfl | simp [*], below_step' FB.out b7⟩


set_option maxHeartbeats 2000000 in
theorem folds_walk_hi (l x y : List UInt8) (hl : 32 = l.length) (hxl : 32 = x.length) (hyl : 32 = y.length) (at_ : Int) (by_ : UInt8) (w : World) (a : Nat) (ha : a < 32) (hla : a < l.length) (hat : (wrap64 (at_.tmod 32 + 32)).tmod 32 = (a : Int)) (hlo : decide ((a : Int) < 12) = false) (hhi : decide (20 ≤ (a : Int)) = true) (ha20 : 20 ≤ a) (hx2 : a - 20 < x.length)
    (HX : Hid ((cellsB l).setIfInBounds a (.int .u8 (bits BinOp.xor IntKind.u8 (l[a].toNat : Int) (by_.toNat : Int))) = cellsB x)) (HY : Hid ((cellsB x).setIfInBounds (a - 20) (.int .u8 (bits BinOp.xor IntKind.u8 (x[a - 20].toNat : Int) (by_.toNat : Int))) = cellsB y))
    (EX : Hid (((enc (fold x 32)) == enc (fold l 32)) = ((by_.toNat : Int) == 0))) (EY : Hid (enc (fold y 32) = enc (fold l 32))) :
    Calls Try.prog 6 #[.agg (cellsB l), .int .i64 at_, .int .u8 (by_.toNat : Int)] w fun e w' => e = .returned (.bool true) ∧ Below w.heap.size w w' := by
  have HS : Hid (32 = (cellsB l).size) := by rw [cellsB_size]; exact hl
  have HSX : Hid (32 = (cellsB x).size) := by rw [cellsB_size]; exact hxl
  have HSY : Hid (32 = (cellsB y).size) := by rw [cellsB_size]; exact hyl
  have HL := Lib.hid hl
  have HXL := Lib.hid hxl
  have HYL := Lib.hid hyl
  clear hl hxl hyl
  go_enter Try.func6, Try.ntmps6
  go_upto_region 3 with (first
    | (refine wpList_load_row rfl 43 (.tmp 3) rfl w.heap.size rfl 43 (cellsB l) (0, 0) _ (Blk.new w 43 (cellsB l)) Try.underlying43 rfl (by rw [← HS.out]; kernel_rfl) ?_)
    | (refine wpList_store_row rfl 43 (.tmp 7) (.tmp 14) rfl (w.heap.size + 1) (cellsB l) rfl rfl 43 _ (blk_alloc2 w _ 43 _) (by rw [← HS.out]; kernel_rfl) (by rw [← HS.out]; rfl) (cellsB_one l) ?_))
  have A0 := Lib.hid (Blk.rowFar (g' := w.heap.size + 1) (Blk.alloc (Blk.new w 43 (cellsB l)) (.cells (cellsB (List.replicate 32 0)) 43)) (by omega) (cellsB l))
  have A1 := Lib.hid (Blk.row (blk_alloc2 w (.cells (cellsB l) 43) 43 (cellsB (List.replicate 32 0))) (cellsB l))
  have AB := Lib.hid (below_setRow (((Below.refl w.heap.size w).alloc (Nat.le_refl _) (.cells (cellsB l) 43)).alloc (by simp) (.cells (cellsB (List.replicate 32 0)) 43)) (g := w.heap.size + 1) (by omega) (cellsB l))
  have AS : Hid ((((w.alloc (.cells (cellsB l) 43)).alloc (.cells (cellsB (List.replicate 32 0)) 43)).setRow (w.heap.size + 1) (cellsB l)).heap.size = w.heap.size + 2) := by simp [Hid]
  change Code.wp _ _ _ _ (((w.alloc (.cells (cellsB l) 43)).alloc (.cells (cellsB (List.replicate 32 0)) 43)).setRow (w.heap.size + 1) (cellsB l))
  generalize (((w.alloc (.cells (cellsB l) 43)).alloc (.cells (cellsB (List.replicate 32 0)) 43)).setRow (w.heap.size + 1) (cellsB l)) = w1 at *
  have hc1 := (Blk.cell A1.out a).trans (cellsB_get l a hla)
  have hf1 := Blk.frozen A1.out a
  go_upto_region 4 with (fail)
  have B0 := Lib.hid (Blk.far (p := ⟨w.heap.size + 1, a, none⟩) A0.out (by simp) (.int .u8 (bits BinOp.xor IntKind.u8 (l[a].toNat : Int) (by_.toNat : Int))))
  have B1 : Hid (Blk (w1.setCell ⟨w.heap.size + 1, a, none⟩ (.int .u8 (bits BinOp.xor IntKind.u8 (l[a].toNat : Int) (by_.toNat : Int)))) (w.heap.size + 1) 43 (cellsB x)) := by
    have h := Blk.set_ A1.out a (.int .u8 (bits BinOp.xor IntKind.u8 (l[a].toNat : Int) (by_.toNat : Int)))
    rw [HX.out] at h
    exact h
  have BB := Lib.hid (Below.setCell (p := ⟨w.heap.size + 1, a, none⟩) AB.out (by simp) (.int .u8 (bits BinOp.xor IntKind.u8 (l[a].toNat : Int) (by_.toNat : Int))))
  have BS : Hid ((w1.setCell ⟨w.heap.size + 1, a, none⟩ (.int .u8 (bits BinOp.xor IntKind.u8 (l[a].toNat : Int) (by_.toNat : Int)))).heap.size = w.heap.size + 2) := by have := AS.out; simp [Hid, World.setCell]; exact this
  clear A0 A1 AB AS hc1 hf1
  change Code.wp _ _ _ _ (w1.setCell ⟨w.heap.size + 1, a, none⟩ (.int .u8 (bits BinOp.xor IntKind.u8 (l[a].toNat : Int) (by_.toNat : Int))))
  generalize (w1.setCell ⟨w.heap.size + 1, a, none⟩ (.int .u8 (bits BinOp.xor IntKind.u8 (l[a].toNat : Int) (by_.toNat : Int)))) = w2 at *
  have hS2 : w2.heap.size = w.heap.size + 2 := BS.out
  go_upto_region 5 with (first
    | (refine wpList_load_row rfl 43 (.tmp 7) rfl (w.heap.size + 1) rfl 43 (cellsB x) (0, 0) _ B1.out Try.underlying43 rfl (by rw [← HSX.out]; kernel_rfl) ?_)
    | (refine wpList_store_row rfl 43 (.tmp 8) (.tmp 22) rfl (w.heap.size + 2) (cellsB x) rfl rfl 43 _ (by have h := Blk.new w2 43 (cellsB (List.replicate 32 0)); rw [BS.out] at h; exact h) (by rw [← HSX.out]; kernel_rfl) (by rw [← HSX.out]; rfl) (cellsB_one _) ?_))
  have C0 := Lib.hid (Blk.rowFar (g' := w.heap.size + 2) (Blk.alloc B0.out (.cells (cellsB (List.replicate 32 0)) 43)) (by omega) (cellsB x))
  have C1 := Lib.hid (Blk.rowFar (g' := w.heap.size + 2) (Blk.alloc B1.out (.cells (cellsB (List.replicate 32 0)) 43)) (by omega) (cellsB x))
  have C2 : Hid (Blk ((w2.alloc (.cells (cellsB (List.replicate 32 0)) 43)).setRow (w.heap.size + 2) (cellsB x)) (w.heap.size + 2) 43 (cellsB x)) := by
    have h := Blk.new w2 43 (cellsB (List.replicate 32 0))
    rw [BS.out] at h
    exact Blk.row h _
  have CB := Lib.hid (below_setRow (BB.out.alloc (by rw [BS.out]; omega) (.cells (cellsB (List.replicate 32 0)) 43)) (g := w.heap.size + 2) (by omega) (cellsB x))
  clear B0 B1 BB BS hS2
  change Code.wp _ _ _ _ ((w2.alloc (.cells (cellsB (List.replicate 32 0)) 43)).setRow (w.heap.size + 2) (cellsB x))
  generalize ((w2.alloc (.cells (cellsB (List.replicate 32 0)) 43)).setRow (w.heap.size + 2) (cellsB x)) = w3 at *
  have hc2 := (Blk.cell C2.out (a - 20)).trans (cellsB_get x (a - 20) hx2)
  have hf2 := Blk.frozen C2.out (a - 20)
  go_upto_region 10 with (fail)
  have D0 := Lib.hid (Blk.far (p := ⟨w.heap.size + 2, a - 20, none⟩) C0.out (by simp) (.int .u8 (bits BinOp.xor IntKind.u8 (x[a - 20].toNat : Int) (by_.toNat : Int))))
  have D1 := Lib.hid (Blk.far (p := ⟨w.heap.size + 2, a - 20, none⟩) C1.out (by simp) (.int .u8 (bits BinOp.xor IntKind.u8 (x[a - 20].toNat : Int) (by_.toNat : Int))))
  have D2 : Hid (Blk (w3.setCell ⟨w.heap.size + 2, a - 20, none⟩ (.int .u8 (bits BinOp.xor IntKind.u8 (x[a - 20].toNat : Int) (by_.toNat : Int)))) (w.heap.size + 2) 43 (cellsB y)) := by
    have h := Blk.set_ C2.out (a - 20) (.int .u8 (bits BinOp.xor IntKind.u8 (x[a - 20].toNat : Int) (by_.toNat : Int)))
    rw [HY.out] at h
    exact h
  have DB := Lib.hid (Below.setCell (p := ⟨w.heap.size + 2, a - 20, none⟩) CB.out (by simp) (.int .u8 (bits BinOp.xor IntKind.u8 (x[a - 20].toNat : Int) (by_.toNat : Int))))
  clear C0 C1 C2 CB hc2 hf2
  change Code.wp _ _ _ _ (w3.setCell ⟨w.heap.size + 2, a - 20, none⟩ (.int .u8 (bits BinOp.xor IntKind.u8 (x[a - 20].toNat : Int) (by_.toNat : Int))))
  generalize (w3.setCell ⟨w.heap.size + 2, a - 20, none⟩ (.int .u8 (bits BinOp.xor IntKind.u8 (x[a - 20].toNat : Int) (by_.toNat : Int)))) = w4 at *
  go_wp2_with (refine wpList_load_row rfl 43 (.tmp 3) rfl w.heap.size rfl 43 (cellsB l) (0, 0) _ D0.out Try.underlying43 rfl (by rw [← HS.out]; kernel_rfl) ?_)
  refine (short_any l HL.out.symm _).mono ?_
  rintro e w5 ⟨rfl, b5⟩
  have E1 := Lib.hid (Blk.below D1.out b5 (Blk.lt D1.out))
  have E2 := Lib.hid (Blk.below D2.out b5 (Blk.lt D2.out))
  have EB := Lib.hid (below_step' DB.out b5)
  have hs32 : (enc (fold l 32)).length = 32 := by rw [enc_length, fold_length]
  clear D0 D1 D2 DB b5
  go_wp2_with (refine wpList_load_row_if (by rfl) 43 (.tmp 7) rfl (w.heap.size + 1) rfl 43 (cellsB x) (0, 0) _ E1.out Try.underlying43 rfl (by rw [← HSX.out]; kernel_rfl) ?_)
  refine (short_any x HXL.out.symm _).mono ?_
  rintro e w6 ⟨rfl, b6⟩
  have F2 := Lib.hid (Blk.below E2.out b6 (Blk.lt E2.out))
  have FB := Lib.hid (below_step' EB.out b6)
  clear E1 E2 EB b6
  have ex := EX.out
  go_wp2_with (refine wpList_load_row_if (by rfl) 43 (.tmp 8) rfl (w.heap.size + 2) rfl 43 (cellsB y) (0, 0) _ F2.out Try.underlying43 rfl (by rw [← HSY.out]; kernel_rfl) ?_)
  refine (short_any y HYL.out.symm _).mono ?_
  rintro e w7 ⟨rfl, b7⟩
  have ey := EY.out
  go_wp2_with fail
  go_ret
  exact ⟨by first | rfl | simp [*], below_step' FB.out b7⟩


set_option maxHeartbeats 2000000 in
theorem folds_walk_mid (l x y : List UInt8) (hl : 32 = l.length) (hxl : 32 = x.length) (hyl : 32 = y.length) (at_ : Int) (by_ : UInt8) (w : World) (a : Nat) (ha : a < 32) (hla : a < l.length) (hat : (wrap64 (at_.tmod 32 + 32)).tmod 32 = (a : Int)) (hlo : decide ((a : Int) < 12) = false) (hhi : decide (20 ≤ (a : Int)) = false) (hx2 : a < x.length)
    (HX : Hid ((cellsB l).setIfInBounds a (.int .u8 (bits BinOp.xor IntKind.u8 (l[a].toNat : Int) (by_.toNat : Int))) = cellsB x)) (HY : Hid ((cellsB x).setIfInBounds (a) (.int .u8 (l[a].toNat : Int)) = cellsB y))
    (EX : Hid (((enc (fold x 32)) == enc (fold l 32)) = ((by_.toNat : Int) == 0))) (EY : Hid (enc (fold y 32) = enc (fold l 32))) :
    Calls Try.prog 6 #[.agg (cellsB l), .int .i64 at_, .int .u8 (by_.toNat : Int)] w fun e w' => e = .returned (.bool true) ∧ Below w.heap.size w w' := by
  have HS : Hid (32 = (cellsB l).size) := by rw [cellsB_size]; exact hl
  have HSX : Hid (32 = (cellsB x).size) := by rw [cellsB_size]; exact hxl
  have HSY : Hid (32 = (cellsB y).size) := by rw [cellsB_size]; exact hyl
  have HL := Lib.hid hl
  have HXL := Lib.hid hxl
  have HYL := Lib.hid hyl
  clear hl hxl hyl
  go_enter Try.func6, Try.ntmps6
  go_upto_region 3 with (first
    | (refine wpList_load_row rfl 43 (.tmp 3) rfl w.heap.size rfl 43 (cellsB l) (0, 0) _ (Blk.new w 43 (cellsB l)) Try.underlying43 rfl (by rw [← HS.out]; kernel_rfl) ?_)
    | (refine wpList_store_row rfl 43 (.tmp 7) (.tmp 14) rfl (w.heap.size + 1) (cellsB l) rfl rfl 43 _ (blk_alloc2 w _ 43 _) (by rw [← HS.out]; kernel_rfl) (by rw [← HS.out]; rfl) (cellsB_one l) ?_))
  have A0 := Lib.hid (Blk.rowFar (g' := w.heap.size + 1) (Blk.alloc (Blk.new w 43 (cellsB l)) (.cells (cellsB (List.replicate 32 0)) 43)) (by omega) (cellsB l))
  have A1 := Lib.hid (Blk.row (blk_alloc2 w (.cells (cellsB l) 43) 43 (cellsB (List.replicate 32 0))) (cellsB l))
  have AB := Lib.hid (below_setRow (((Below.refl w.heap.size w).alloc (Nat.le_refl _) (.cells (cellsB l) 43)).alloc (by simp) (.cells (cellsB (List.replicate 32 0)) 43)) (g := w.heap.size + 1) (by omega) (cellsB l))
  have AS : Hid ((((w.alloc (.cells (cellsB l) 43)).alloc (.cells (cellsB (List.replicate 32 0)) 43)).setRow (w.heap.size + 1) (cellsB l)).heap.size = w.heap.size + 2) := by simp [Hid]
  change Code.wp _ _ _ _ (((w.alloc (.cells (cellsB l) 43)).alloc (.cells (cellsB (List.replicate 32 0)) 43)).setRow (w.heap.size + 1) (cellsB l))
  generalize (((w.alloc (.cells (cellsB l) 43)).alloc (.cells (cellsB (List.replicate 32 0)) 43)).setRow (w.heap.size + 1) (cellsB l)) = w1 at *
  have hc1 := (Blk.cell A1.out a).trans (cellsB_get l a hla)
  have hf1 := Blk.frozen A1.out a
  go_upto_region 4 with (fail)
  have B0 := Lib.hid (Blk.far (p := ⟨w.heap.size + 1, a, none⟩) A0.out (by simp) (.int .u8 (bits BinOp.xor IntKind.u8 (l[a].toNat : Int) (by_.toNat : Int))))
  have B1 : Hid (Blk (w1.setCell ⟨w.heap.size + 1, a, none⟩ (.int .u8 (bits BinOp.xor IntKind.u8 (l[a].toNat : Int) (by_.toNat : Int)))) (w.heap.size + 1) 43 (cellsB x)) := by
    have h := Blk.set_ A1.out a (.int .u8 (bits BinOp.xor IntKind.u8 (l[a].toNat : Int) (by_.toNat : Int)))
    rw [HX.out] at h
    exact h
  have BB := Lib.hid (Below.setCell (p := ⟨w.heap.size + 1, a, none⟩) AB.out (by simp) (.int .u8 (bits BinOp.xor IntKind.u8 (l[a].toNat : Int) (by_.toNat : Int))))
  have BS : Hid ((w1.setCell ⟨w.heap.size + 1, a, none⟩ (.int .u8 (bits BinOp.xor IntKind.u8 (l[a].toNat : Int) (by_.toNat : Int)))).heap.size = w.heap.size + 2) := by have := AS.out; simp [Hid, World.setCell]; exact this
  clear A0 A1 AB AS hc1 hf1
  change Code.wp _ _ _ _ (w1.setCell ⟨w.heap.size + 1, a, none⟩ (.int .u8 (bits BinOp.xor IntKind.u8 (l[a].toNat : Int) (by_.toNat : Int))))
  generalize (w1.setCell ⟨w.heap.size + 1, a, none⟩ (.int .u8 (bits BinOp.xor IntKind.u8 (l[a].toNat : Int) (by_.toNat : Int)))) = w2 at *
  have hS2 : w2.heap.size = w.heap.size + 2 := BS.out
  go_upto_region 5 with (first
    | (refine wpList_load_row rfl 43 (.tmp 7) rfl (w.heap.size + 1) rfl 43 (cellsB x) (0, 0) _ B1.out Try.underlying43 rfl (by rw [← HSX.out]; kernel_rfl) ?_)
    | (refine wpList_store_row rfl 43 (.tmp 8) (.tmp 22) rfl (w.heap.size + 2) (cellsB x) rfl rfl 43 _ (by have h := Blk.new w2 43 (cellsB (List.replicate 32 0)); rw [BS.out] at h; exact h) (by rw [← HSX.out]; kernel_rfl) (by rw [← HSX.out]; rfl) (cellsB_one _) ?_))
  have C0 := Lib.hid (Blk.rowFar (g' := w.heap.size + 2) (Blk.alloc B0.out (.cells (cellsB (List.replicate 32 0)) 43)) (by omega) (cellsB x))
  have C1 := Lib.hid (Blk.rowFar (g' := w.heap.size + 2) (Blk.alloc B1.out (.cells (cellsB (List.replicate 32 0)) 43)) (by omega) (cellsB x))
  have C2 : Hid (Blk ((w2.alloc (.cells (cellsB (List.replicate 32 0)) 43)).setRow (w.heap.size + 2) (cellsB x)) (w.heap.size + 2) 43 (cellsB x)) := by
    have h := Blk.new w2 43 (cellsB (List.replicate 32 0))
    rw [BS.out] at h
    exact Blk.row h _
  have CB := Lib.hid (below_setRow (BB.out.alloc (by rw [BS.out]; omega) (.cells (cellsB (List.replicate 32 0)) 43)) (g := w.heap.size + 2) (by omega) (cellsB x))
  clear B0 B1 BB BS hS2
  change Code.wp _ _ _ _ ((w2.alloc (.cells (cellsB (List.replicate 32 0)) 43)).setRow (w.heap.size + 2) (cellsB x))
  generalize ((w2.alloc (.cells (cellsB (List.replicate 32 0)) 43)).setRow (w.heap.size + 2) (cellsB x)) = w3 at *
  have hc2 := (Blk.cell C2.out a).trans (cellsB_get x a hx2)
  have hf2 := Blk.frozen C2.out a
  have hc3 := (Blk.cell C0.out a).trans (cellsB_get l a hla)
  go_upto_region 10 with (fail)
  have D0 := Lib.hid (Blk.far (p := ⟨w.heap.size + 2, a, none⟩) C0.out (by simp) (.int .u8 (l[a].toNat : Int)))
  have D1 := Lib.hid (Blk.far (p := ⟨w.heap.size + 2, a, none⟩) C1.out (by simp) (.int .u8 (l[a].toNat : Int)))
  have D2 : Hid (Blk (w3.setCell ⟨w.heap.size + 2, a, none⟩ (.int .u8 (l[a].toNat : Int))) (w.heap.size + 2) 43 (cellsB y)) := by
    have h := Blk.set_ C2.out (a) (.int .u8 (l[a].toNat : Int))
    rw [HY.out] at h
    exact h
  have DB := Lib.hid (Below.setCell (p := ⟨w.heap.size + 2, a, none⟩) CB.out (by simp) (.int .u8 (l[a].toNat : Int)))
  clear C0 C1 C2 CB hc2 hf2
  change Code.wp _ _ _ _ (w3.setCell ⟨w.heap.size + 2, a, none⟩ (.int .u8 (l[a].toNat : Int)))
  generalize (w3.setCell ⟨w.heap.size + 2, a, none⟩ (.int .u8 (l[a].toNat : Int))) = w4 at *
  go_wp2_with (refine wpList_load_row rfl 43 (.tmp 3) rfl w.heap.size rfl 43 (cellsB l) (0, 0) _ D0.out Try.underlying43 rfl (by rw [← HS.out]; kernel_rfl) ?_)
  refine (short_any l HL.out.symm _).mono ?_
  rintro e w5 ⟨rfl, b5⟩
  have E1 := Lib.hid (Blk.below D1.out b5 (Blk.lt D1.out))
  have E2 := Lib.hid (Blk.below D2.out b5 (Blk.lt D2.out))
  have EB := Lib.hid (below_step' DB.out b5)
  have hs32 : (enc (fold l 32)).length = 32 := by rw [enc_length, fold_length]
  clear D0 D1 D2 DB b5
  go_wp2_with (refine wpList_load_row_if (by rfl) 43 (.tmp 7) rfl (w.heap.size + 1) rfl 43 (cellsB x) (0, 0) _ E1.out Try.underlying43 rfl (by rw [← HSX.out]; kernel_rfl) ?_)
  refine (short_any x HXL.out.symm _).mono ?_
  rintro e w6 ⟨rfl, b6⟩
  have F2 := Lib.hid (Blk.below E2.out b6 (Blk.lt E2.out))
  have FB := Lib.hid (below_step' EB.out b6)
  clear E1 E2 EB b6
  have ex := EX.out
  go_wp2_with (refine wpList_load_row_if (by rfl) 43 (.tmp 8) rfl (w.heap.size + 2) rfl 43 (cellsB y) (0, 0) _ F2.out Try.underlying43 rfl (by rw [← HSY.out]; kernel_rfl) ?_)
  refine (short_any y HYL.out.symm _).mono ?_
  rintro e w7 ⟨rfl, b7⟩
  have ey := EY.out
  go_wp2_with fail
  go_ret
  exact ⟨by first | rfl | simp [*], below_step' FB.out b7⟩

end Go.Proofs.Ytmaknbcfnigbmaa
