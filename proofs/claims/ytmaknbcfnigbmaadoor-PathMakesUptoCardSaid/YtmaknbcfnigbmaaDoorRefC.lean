/- The reference's constants, walked. The reference's block, walked. -/
import Derived.Test.YtmaknbcfnigbmaaDoorWalkSum
import Derived.Test.YtmaknbcfnigbmaaDoorWalkAdd
namespace Go.Proofs.YtmaknbcfnigbmaaDoor
open Go.RowKit Sha
set_option maxHeartbeats 1000000 in
set_option maxRecDepth 100000 in
theorem constants_any (w : World) : Calls Tryd.prog 42 #[] w fun e w' => e = .returned (.slice (some ⟨w.heap.size, 0, none⟩) 64 64) ∧ Blk w' w.heap.size 67 (cellsW cubes) ∧ Below w.heap.size w w' := by
  go_enter Tryd.func42, Tryd.ntmps42
  go_wp2
  go_ret
  exact ⟨rfl, Blk.new w 67 (cellsW cubes), (Below.refl _ w).alloc (Nat.le_refl _) _⟩
end Go.Proofs.YtmaknbcfnigbmaaDoor

namespace Go.Proofs.YtmaknbcfnigbmaaDoor
open Go.RowKit Sha
set_option linter.unusedSimpArgs false
theorem no_int (a : UInt32) : bits .xor .u32 IntKind.u32.max (a.toNat : Int) = ((no a).toNat : Int) := by
  have e : IntKind.u32.max = ((4294967295 : Nat) : Int) := by decide
  have ha : a.toNat < 4294967296 := a.toNat_lt
  rw [e, u32_xor_nat _ _ (by decide) ha]
  have h : (no a).toNat = 4294967295 - a.toNat := by unfold no; rw [UInt32.toNat_not]; rfl
  rw [h, Nat.xor_comm]
  have h2 : a.toNat ^^^ 4294967295 = 4294967295 - a.toNat := by
    have h3 := congrArg UInt32.toNat (show a ^^^ 0xffffffff = ~~~a from by
      apply UInt32.toBitVec_inj.1
      apply BitVec.eq_of_getLsbD_eq
      intro i hi
      have : i < 32 := hi
      simp only [UInt32.toBitVec_xor, UInt32.toBitVec_not, BitVec.getLsbD_xor, BitVec.getLsbD_not]
      have e2 : (UInt32.toBitVec 0xffffffff).getLsbD i = true := by
        have : ∀ i : Fin 32, (UInt32.toBitVec 0xffffffff).getLsbD i.val = true := by decide
        exact this ⟨i, hi⟩
      rw [e2]; simp [this])
    rw [UInt32.toNat_xor, UInt32.toNat_not] at h3
    exact h3
  rw [h2]
theorem t_ref (k w e f g h : UInt32) : ad (ad (ad (ad h (xo (xo (rr 6 e) (rr 11 e)) (rr 25 e))) (xo (an e f) (an (no e) g))) k) w = tOf k w e f g h := by
  rw [ch_eq]; rfl
theorem u_ref (a b c : UInt32) : ad (xo (xo (rr 2 a) (rr 13 a)) (rr 22 a)) (xo (xo (an a b) (an a c)) (an b c)) = uOf a b c := by
  rw [maj_eq]; rfl
theorem refNumber_four (ad : Addr) (l : List UInt8) (k c : Nat) (hk : 4 * k + 4 ≤ l.length) (w : World) (hr : ReadsB w (some ad) l) :
    Calls Tryd.prog 55 #[.slice (some (ad.add (4 * k))) 4 c] w fun e w' => e = .returned (.tuple #[.int .u64 (numB ((l.drop (4 * k)).take 4) : Int), .int .i64 0]) ∧ w = w' := by
  have hl : ((l.drop (4 * k)).take 4).length = 4 := by rw [List.length_take, List.length_drop]; omega
  have h := refNumber_any (some (ad.add (4 * k))) ((l.drop (4 * k)).take 4) c w (hr.sub (4 * k) 4) (by omega) (by omega)
  rw [hl] at h
  exact h
/-- What stands in the reference's block: the digest so far, the result's place, the words, and all that was. -/
def RefS (s m : List UInt32) (w W : World) : Prop :=
  Blk W w.heap.size 79 (cellsW s) ∧ Blk W (w.heap.size + 1) 79 (cellsW (List.replicate 8 0)) ∧ Blk W (w.heap.size + 2) 99 (cellsW m) ∧ Below w.heap.size w W
section
variable {s m : List UInt32} {w W W' : World}
theorem RefS.below (h : RefS s m w W) (hb : Below W.heap.size W W') : RefS s m w W' :=
  ⟨h.1.below hb h.1.lt, h.2.1.below hb h.2.1.lt, h.2.2.1.below hb h.2.2.1.lt, below_step' h.2.2.2 hb⟩
theorem RefS.drewN (h : RefS s m w W) (n : Nat) : RefS s m w (W.drewN n) := ⟨h.1, h.2.1, h.2.2.1, below_drewN' h.2.2.2 n⟩
theorem RefS.word (h : RefS s m w W) (k : Nat) (v : UInt32) : RefS s (m.set k v) w (W.setCell ⟨w.heap.size + 2, k, none⟩ (.int .u32 (v.toNat : Int))) :=
  ⟨h.1.far (by simp) _, h.2.1.far (by simp) _, by rw [← cellsW_set]; exact h.2.2.1.set_ k _, h.2.2.2.setCell (by simp) _⟩
theorem RefS.size (h : RefS s m w W) : w.heap.size + 3 ≤ W.heap.size := h.2.2.1.lt
end
set_option maxHeartbeats 4000000 in
set_option maxRecDepth 100000 in
theorem block_any (p : Addr) (l : List UInt8) (c : Nat) (s : List UInt32) (pk : Addr) (ck : Nat) (hl : l.length = 64) (hc : 64 ≤ c) (hs : s.length = 8) (w : World) (hr : ReadsB w (some p) l)
    (hK : ∀ i, i < 64 → w.cell? (pk.add i) = some (.int .u32 ((cubes.getD i 0).toNat : Int))) :
    Calls Tryd.prog 44 #[.agg (cellsW s), .slice (some p) 64 c, .slice (some pk) 64 ck] w fun e w' => e = .returned (.agg (cellsW (addB s l))) ∧ Below w.heap.size w w' := by
  have HL := Lib.hid hl
  have HSL := Lib.hid hs
  have HR := Lib.hid hr
  have HK := Lib.hid hK
  clear hr hl hs hK
  go_enter Tryd.func44, Tryd.ntmps44
  go_upto_region 2 with (fail)
  have HS0 : Hid (RefS s (List.replicate 64 0) w (((w.alloc (.cells (cellsW s) 79)).alloc (.cells (cellsW (List.replicate 8 0)) 79)).alloc (.cells (cellsW (List.replicate 64 0)) 99))) :=
    ⟨((Blk.new w 79 (cellsW s)).alloc _).alloc _, (blk_alloc2 w _ 79 _).alloc _, by have h := Blk.new ((w.alloc (.cells (cellsW s) 79)).alloc (.cells (cellsW (List.replicate 8 0)) 79)) 99 (cellsW (List.replicate 64 0)); simp only [World.size_alloc] at h; exact h,
      (((Below.refl _ w).alloc (Nat.le_refl _) _).alloc (by simp) _).alloc (by simp; omega) _⟩
  change Code.wp _ _ _ _ (((w.alloc (.cells (cellsW s) 79)).alloc (.cells (cellsW (List.replicate 8 0)) 79)).alloc (.cells (cellsW (List.replicate 64 0)) 99))
  generalize ((w.alloc (.cells (cellsW s) 79)).alloc (.cells (cellsW (List.replicate 8 0)) 79)).alloc (.cells (cellsW (List.replicate 64 0)) 99) = W0 at *
  go_wp2_with fail
  go_loopw [8] (fun t8 wr => ∃ k : Nat, t8 = .int .i64 k ∧ k ≤ 16 ∧ Hid (RefS s (laidW l k) w wr)) (fun t8 _ => 16 - (intOf t8).toNat)
  case atStart => exact ⟨0, rfl, by omega, HS0⟩
  case round =>
    clear HS0
    obtain ⟨k, rfl, hk, HS⟩ := hrel
    by_cases hlt : k < 16
    · have hm : k < (laidW l k).length := by rw [laidW_length l k (by omega)]; omega
      have hcc := (Blk.cell HS.out.2.2.1 k).trans (cellsW_get _ k hm)
      have hf := Blk.frozen HS.out.2.2.1 k
      have hmin : (4 * (k : Int) + 4) ≤ 64 := by omega
      have HN : Hid (∀ c' W, ReadsB W (some p) l → Calls Tryd.prog 55 #[.slice (some (p.add (4 * k))) 4 c'] W fun e w' => e = .returned (.tuple #[.int .u64 (numB ((l.drop (4 * k)).take 4) : Int), .int .i64 0]) ∧ W = w') :=
        fun c' W h => refNumber_four p l k c' (by have := HL.out; omega) W h
      have HWI := Lib.hid (word_int l k)
      have HST := Lib.hid (laidW_set l k (by omega) (word l k) (by rw [if_pos hlt]))
      have HRr := Lib.hid (HR.out.below HS.out.2.2.2)
      generalize numB ((l.drop (4 * k)).take 4) = v at *
      go_wp2_with fail
      refine (HN.out _ _ HRr.out).mono ?_
      rintro e w' ⟨rfl, rfl⟩
      go_wp2_with fail
      go_roundw
      case rel =>
        refine ⟨k + 1, by go_num, by omega, ?_⟩
        rw [HWI.out, ← HST.out]
        exact HS.out.word k _
      case measure => simp [intOf]; omega
    · obtain rfl : k = 16 := by omega
      clear hlt hk
      go_wp2_with fail
      rw [show ((16 : Nat) : Int) = 16 from rfl]
      obtain ⟨wo, rfl⟩ : ∃ wo : World, wo = wr := ⟨_, rfl⟩
      go_loopw [11] (fun t11 wr => ∃ k : Nat, t11 = .int .i64 k ∧ 16 ≤ k ∧ k ≤ 64 ∧ Hid (RefS s (laidW l k) w wr)) (fun t11 _ => 64 - (intOf t11).toNat)
      case atStart => exact ⟨16, rfl, by omega, by omega, HS⟩
      case round =>
        clear HS
        obtain ⟨k, rfl, hk1, hk, HS⟩ := hrel
        by_cases hlt : k < 64
        · have hlen := laidW_length l k hk
          have hc15 := (Blk.cell HS.out.2.2.1 (k - 15)).trans (cellsW_getD _ (k - 15) (by omega))
          have hc2 := (Blk.cell HS.out.2.2.1 (k - 2)).trans (cellsW_getD _ (k - 2) (by omega))
          have hc16 := (Blk.cell HS.out.2.2.1 (k - 16)).trans (cellsW_getD _ (k - 16) (by omega))
          have hc7 := (Blk.cell HS.out.2.2.1 (k - 7)).trans (cellsW_getD _ (k - 7) (by omega))
          have hck := (Blk.cell HS.out.2.2.1 k).trans (cellsW_getD _ k (by omega))
          have hf := Blk.frozen HS.out.2.2.1 k
          rw [laidW_at l k _ (by omega)] at hc15 hc2 hc16 hc7
          have HST := Lib.hid (laidW_set l k (by omega) _ (by rw [if_neg (by omega)]))
          have hx := nextW_ref (wds l k) k
          unfold sm1 sm0 at hx
          have HNX := Lib.hid hx
          clear hx
          generalize (wds l k).getD (k - 16) 0 = x16 at *
          generalize (wds l k).getD (k - 15) 0 = x15 at *
          generalize (wds l k).getD (k - 7) 0 = x7 at *
          generalize (wds l k).getD (k - 2) 0 = x2 at *
          have HR1 : Hid (∀ W, Calls Tryd.prog 56 #[.int .u32 (x15.toNat : Int), .int .i64 7, .int .i64 18] W fun e w' => e = .returned (.int .u32 ((xo (rr 7 x15) (rr 18 x15)).toNat : Int)) ∧ w' = W) := fun W => (refTwo_any x15 7 18 (by decide) (by decide) W).mono fun _ _ ⟨a, b⟩ => ⟨a, b.symm⟩
          have HR2 : Hid (∀ W, Calls Tryd.prog 56 #[.int .u32 (x2.toNat : Int), .int .i64 17, .int .i64 19] W fun e w' => e = .returned (.int .u32 ((xo (rr 17 x2) (rr 19 x2)).toNat : Int)) ∧ w' = W) := fun W => (refTwo_any x2 17 19 (by decide) (by decide) W).mono fun _ _ ⟨a, b⟩ => ⟨a, b.symm⟩
          have hw16 : IntKind.i64.wrap ((k : Int) - 16) = ((k - 16 : Nat) : Int) := by rw [IntWalk.i64_in _ (by omega)]; omega
          have hw15 : IntKind.i64.wrap ((k : Int) - 15) = ((k - 15 : Nat) : Int) := by rw [IntWalk.i64_in _ (by omega)]; omega
          have hw7 : IntKind.i64.wrap ((k : Int) - 7) = ((k - 7 : Nat) : Int) := by rw [IntWalk.i64_in _ (by omega)]; omega
          have hw2 : IntKind.i64.wrap ((k : Int) - 2) = ((k - 2 : Nat) : Int) := by rw [IntWalk.i64_in _ (by omega)]; omega
          have hb16 : 0 ≤ ((k - 16 : Nat) : Int) ∧ ((k - 16 : Nat) : Int) < 64 := by omega
          have hb15 : 0 ≤ ((k - 15 : Nat) : Int) ∧ ((k - 15 : Nat) : Int) < 64 := by omega
          have hb7 : 0 ≤ ((k - 7 : Nat) : Int) ∧ ((k - 7 : Nat) : Int) < 64 := by omega
          have hb2 : 0 ≤ ((k - 2 : Nat) : Int) ∧ ((k - 2 : Nat) : Int) < 64 := by omega
          have hk0 : (16 : Int) ≤ (k : Int) := by omega
          have hk64 : (k : Int) < 64 := by omega
          go_wp2_with fail
          refine wp_region_still_tail 35 (by kernel_rfl) (by kernel_rfl) ?_
          simp only [List.take_succ_cons, List.take_zero, List.drop_succ_cons, List.drop_zero]
          change wpStill _ _ (wr.drewN 1) _ _ _
          repeat still_step
          still_call (HR2.out _)
          repeat still_step
          still_call (HR1.out _)
          repeat still_step
          refine wpStill_nil ?_
          change wpList _ _ _ _ _ (wr.drewN 1)
          clear hw16 hw15 hw7 hw2
          go_wp2_with fail
          go_roundw
          case rel =>
            refine ⟨k + 1, by go_num, by omega, by omega, ?_⟩
            rw [sr10_int, xo_int', sr3_int, xo_int', ad4_int, HNX.out, ← HST.out]
            exact (HS.out.drewN 1).word k _
          case measure => simp [intOf]; omega
        · obtain rfl : k = 64 := by omega
          have HS1 : Hid (RefS s (wds l 64) w wr) := by have h := HS.out; rw [laidW_full] at h; exact h
          have HS8 : Hid ((cellsW s).size = 8) := by rw [Hid, cellsW_size]; exact HSL.out
          have HBs : Hid (Blk wr w.heap.size 79 (cellsW s)) := HS1.out.1
          have HNb : Hid (Blk (wr.alloc (.cells #[.int .u32 0, .int .u32 0, .int .u32 0, .int .u32 0, .int .u32 0, .int .u32 0, .int .u32 0, .int .u32 0] 79)) wr.heap.size 79 #[.int .u32 0, .int .u32 0, .int .u32 0, .int .u32 0, .int .u32 0, .int .u32 0, .int .u32 0, .int .u32 0]) := Blk.new wr 79 _
          clear HS hk hk1 hlt
          go_wp2_with (first
            | (refine wpList_load_row rfl 79 (.tmp 3) rfl w.heap.size rfl 79 (cellsW s) (0, 0) _ HBs.out Tryd.underlying79 rfl (by rw [HS8.out]; kernel_rfl) ?_)
            | (refine wpList_store_row rfl 79 (.tmp 12) (.tmp 75) rfl wr.heap.size (cellsW s) rfl rfl 79 _ HNb.out (by rw [HS8.out]; kernel_rfl) (by rw [HS8.out]; rfl) (cellsW_one _) ?_))
          have hgx := HS1.out.size
          have HS2 : Hid (RefS s (wds l 64) w ((wr.alloc (.cells #[.int .u32 0, .int .u32 0, .int .u32 0, .int .u32 0, .int .u32 0, .int .u32 0, .int .u32 0, .int .u32 0] 79)).setRow wr.heap.size (cellsW s))) :=
            ⟨(HS1.out.1.alloc _).rowFar (by omega) _, (HS1.out.2.1.alloc _).rowFar (by omega) _, (HS1.out.2.2.1.alloc _).rowFar (by omega) _, below_setRow (HS1.out.2.2.2.alloc (by omega) _) (by omega) _⟩
          have HX2 := Lib.hid (HNb.out.row (cellsW s))
          generalize (wr.alloc (.cells #[.int .u32 0, .int .u32 0, .int .u32 0, .int .u32 0, .int .u32 0, .int .u32 0, .int .u32 0, .int .u32 0] 79)).setRow wr.heap.size (cellsW s) = W2 at *
          generalize wr.heap.size = gx at *
          clear HNb HBs HS1
          go_loopw [13] (fun t13 wr => ∃ k : Nat, t13 = .int .i64 k ∧ k ≤ 64 ∧ Hid (Blk wr gx 79 (cellsW (rnds (wds l 64) s k))) ∧ Hid (RefS s (wds l 64) w wr)) (fun t13 _ => 64 - (intOf t13).toNat)
          case atStart => exact ⟨0, rfl, by omega, HX2, HS2⟩
          case round =>
            clear HX2 HS2
            obtain ⟨k, rfl, hk, HBx, HS⟩ := hrel
            by_cases hlt : k < 64
            · obtain ⟨a, b, c', d, e, f, g, h0, hx⟩ := eight_of (rnds (wds l 64) s k) ((rnds_length _ _ _).trans HSL.out)
              have HST : Hid (rnds (wds l 64) s (k + 1) = [ad (tOf (cubes.getD k 0) ((wds l 64).getD k 0) e f g h0) (uOf a b c'), a, b, c', ad d (tOf (cubes.getD k 0) ((wds l 64).getD k 0) e f g h0), e, f, g]) := by rw [Hid, rnds, hx]; rfl
              have HX : Hid (Blk wr gx 79 (cellsW [a, b, c', d, e, f, g, h0])) := by have h := HBx.out; rw [hx] at h; exact h
              clear HBx hx
              have x0 : wr.cell? ⟨gx, 0, none⟩ = some (.int .u32 (a.toNat : Int)) := Blk.cell HX.out 0
              have x1 : wr.cell? ⟨gx, 1, none⟩ = some (.int .u32 (b.toNat : Int)) := Blk.cell HX.out 1
              have x2 : wr.cell? ⟨gx, 2, none⟩ = some (.int .u32 (c'.toNat : Int)) := Blk.cell HX.out 2
              have x3 : wr.cell? ⟨gx, 3, none⟩ = some (.int .u32 (d.toNat : Int)) := Blk.cell HX.out 3
              have x4 : wr.cell? ⟨gx, 4, none⟩ = some (.int .u32 (e.toNat : Int)) := Blk.cell HX.out 4
              have x5 : wr.cell? ⟨gx, 5, none⟩ = some (.int .u32 (f.toNat : Int)) := Blk.cell HX.out 5
              have x6 : wr.cell? ⟨gx, 6, none⟩ = some (.int .u32 (g.toNat : Int)) := Blk.cell HX.out 6
              have x7 : wr.cell? ⟨gx, 7, none⟩ = some (.int .u32 (h0.toNat : Int)) := Blk.cell HX.out 7
              have xw := (Blk.cell HS.out.2.2.1 k).trans (cellsW_getD _ k (by rw [wds_length]; exact hlt))
              have xc := (HS.out.2.2.2.cell (World.block_lt_of_cell? w _ (HK.out k hlt))).trans (HK.out k hlt)
              have hT1 : Hid (∀ W, Calls Tryd.prog 56 #[.int .u32 (e.toNat : Int), .int .i64 6, .int .i64 11] W fun r w' => r = .returned (.int .u32 ((xo (rr 6 e) (rr 11 e)).toNat : Int)) ∧ w' = W) := fun W => (refTwo_any e 6 11 (by decide) (by decide) W).mono fun _ _ ⟨a, b⟩ => ⟨a, b.symm⟩
              have hT2 : Hid (∀ W, Calls Tryd.prog 57 #[.int .u32 (e.toNat : Int), .int .i64 25] W fun r w' => r = .returned (.int .u32 ((rr 25 e).toNat : Int)) ∧ w' = W) := fun W => (refRot_any e 25 (by decide) (by decide) W).mono fun _ _ ⟨a, b⟩ => ⟨a, b.symm⟩
              have hT3 : Hid (∀ W, Calls Tryd.prog 56 #[.int .u32 (a.toNat : Int), .int .i64 2, .int .i64 13] W fun r w' => r = .returned (.int .u32 ((xo (rr 2 a) (rr 13 a)).toNat : Int)) ∧ w' = W) := fun W => (refTwo_any a 2 13 (by decide) (by decide) W).mono fun _ _ ⟨a, b⟩ => ⟨a, b.symm⟩
              have hT4 : Hid (∀ W, Calls Tryd.prog 57 #[.int .u32 (a.toNat : Int), .int .i64 22] W fun r w' => r = .returned (.int .u32 ((rr 22 a).toNat : Int)) ∧ w' = W) := fun W => (refRot_any a 22 (by decide) (by decide) W).mono fun _ _ ⟨a, b⟩ => ⟨a, b.symm⟩
              generalize (wds l 64).getD k 0 = ww at *
              generalize cubes.getD k 0 = kk at *
              have hk0 : (0 : Int) ≤ (k : Int) := by omega
              have hk64 : (k : Int) < 64 := by omega
              go_wp2_with fail
              go_quiet (first | (go_at_call 56; exact Calls.quiet_of_same (hT1.out _)) | (go_at_call 57; exact Calls.quiet_of_same (hT2.out _)))
              revert nq
              intro n1
              go_wp2_with fail
              go_quiet (first | (go_at_call 56; exact quiet_more hT3.out) | (go_at_call 57; exact quiet_more hT4.out))
              go_upto_region 17 with (fail)
              simp only [an_int, no_int, xo_int', Int.emod_add_emod, ad5_int, ad_int, t_ref, u_ref]
              generalize tOf kk ww e f g h0 = tt at *
              generalize uOf a b c' = uu at *
              have HX7 : Hid (Blk ((wr.drewN n1).drewN nq) gx 79 (cellsW [a, b, c', d, e, f, g, h0])) := HX.out
              have HS7 : Hid (RefS s (wds l 64) w ((wr.drewN n1).drewN nq)) := (HS.out.drewN n1).drewN nq
              clear x0 x1 x2 x3 x4 x5 x6 x7 xw xc HX HS
              generalize (wr.drewN n1).drewN nq = W7 at *
              have x0 : W7.cell? ⟨gx, 0, none⟩ = some (.int .u32 (a.toNat : Int)) := Blk.cell HX7.out 0
              have x1 : W7.cell? ⟨gx, 1, none⟩ = some (.int .u32 (b.toNat : Int)) := Blk.cell HX7.out 1
              have x2 : W7.cell? ⟨gx, 2, none⟩ = some (.int .u32 (c'.toNat : Int)) := Blk.cell HX7.out 2
              have x3 : W7.cell? ⟨gx, 3, none⟩ = some (.int .u32 (d.toNat : Int)) := Blk.cell HX7.out 3
              have x4 : W7.cell? ⟨gx, 4, none⟩ = some (.int .u32 (e.toNat : Int)) := Blk.cell HX7.out 4
              have x5 : W7.cell? ⟨gx, 5, none⟩ = some (.int .u32 (f.toNat : Int)) := Blk.cell HX7.out 5
              have x6 : W7.cell? ⟨gx, 6, none⟩ = some (.int .u32 (g.toNat : Int)) := Blk.cell HX7.out 6
              have hd1 := ad_int tt uu
              have hd2 := ad_int d tt
              go_wp2_with (refine wpList_store_row rfl 79 (.tmp 12) (.tmp 156) rfl gx (cellsW [ad tt uu, a, b, c', ad d tt, e, f, g]) rfl rfl 79 _ HX7.out (by kernel_rfl) (by simp [cellsW]) (cellsW_one _) ?_)
              go_roundw
              case rel =>
                refine ⟨k + 1, by go_num, by omega, ?_, ⟨HS7.out.1.rowFar (by omega) _, HS7.out.2.1.rowFar (by omega) _, HS7.out.2.2.1.rowFar (by omega) _, below_setRow HS7.out.2.2.2 (by omega) _⟩⟩
                rw [HST.out]
                exact HX7.out.row _
              case measure => simp [intOf]; omega
            · obtain rfl : k = 64 := by omega
              clear hk hlt
              obtain ⟨x, hx⟩ : ∃ x, x = rnds (wds l 64) s 64 := ⟨_, rfl⟩
              have HX8 : Hid (x.length = 8) := by rw [Hid, hx, rnds_length]; exact HSL.out
              have HZ : Hid (List.zipWith ad s x = addB s l) := by rw [Hid, hx]; rfl
              rw [← hx] at HBx
              clear hx
              go_wp2_with fail
              rw [show ((64 : Nat) : Int) = 64 from rfl]
              obtain ⟨wo, rfl⟩ : ∃ wo : World, wo = wr := ⟨_, rfl⟩
              go_loopw [16] (fun t16 wr => ∃ k : Nat, t16 = .int .i64 k ∧ k ≤ 8 ∧ Hid (Blk wr gx 79 (cellsW x)) ∧ Hid (Blk wr w.heap.size 79 (cellsW (laidA s x k))) ∧ Hid (Blk wr (w.heap.size + 1) 79 (cellsW (List.replicate 8 0))) ∧ Hid (Below w.heap.size w wr)) (fun t16 _ => 8 - (intOf t16).toNat)
              case atStart => exact ⟨0, rfl, by omega, HBx, by have h := HS.out.1; simpa [Hid, laidA] using h, HS.out.2.1, HS.out.2.2.2⟩
              case round =>
                clear HBx HS
                obtain ⟨k, rfl, hk, HB6, HBs, HBr, HW⟩ := hrel
                by_cases hlt : k < 8
                · have hk0 : (0 : Int) ≤ (k : Int) := by omega
                  have hk8 : (k : Int) < 8 := by omega
                  have y1 := (Blk.cell HB6.out k).trans (cellsW_getD _ k (by rw [HX8.out]; exact hlt))
                  have y2 := (Blk.cell HBs.out k).trans (cellsW_getD _ k (by rw [laidA_length s x k HSL.out HX8.out hk]; exact hlt))
                  rw [laidA_at s x k HSL.out HX8.out hlt] at y2
                  have yf := Blk.frozen HBs.out k
                  have HST := Lib.hid (laidA_step s x k HSL.out HX8.out hlt)
                  generalize x.getD k 0 = xk at *
                  generalize s.getD k 0 = sk at *
                  go_wp2_with fail
                  refine wp_region_still_tail 9 (by kernel_rfl) (by kernel_rfl) ?_
                  simp only [List.take_succ_cons, List.take_zero, List.drop_succ_cons, List.drop_zero]
                  change wpStill _ _ (wr.drewN 1) _ _ _
                  repeat still_step
                  refine wpStill_nil ?_
                  go_wp2_with fail
                  go_roundw
                  case rel =>
                    refine ⟨k + 1, by go_num, by omega, (HB6.out.far (p := ⟨w.heap.size, k, none⟩) (fun e => by have h0 : gx = w.heap.size := e; omega) _).drewN 1, ?_, (HBr.out.far (p := ⟨w.heap.size, k, none⟩) (by simp) _).drewN 1, below_drewN' (n := 1) (HW.out.setCell (p := ⟨w.heap.size, k, none⟩) (Nat.le_refl _) _)⟩
                    rw [ad_int, ← HST.out, ← cellsW_set]
                    exact (HBs.out.set_ k _).drewN 1
                  case measure => simp [intOf]; omega
                · obtain rfl : k = 8 := by omega
                  have HF : Hid (Blk wr w.heap.size 79 (cellsW (addB s l))) := by have h := HBs.out; rw [laidA_full s x HSL.out HX8.out, HZ.out] at h; exact h
                  have HSZ : Hid ((cellsW (addB s l)).size = 8) := by rw [Hid, cellsW_size, addB_length]; exact HSL.out
                  clear HBs
                  go_wp2_with (first
                    | (refine wpList_load_row rfl 79 (.tmp 3) rfl w.heap.size rfl 79 (cellsW (addB s l)) (0, 0) _ HF.out Tryd.underlying79 rfl (by rw [HSZ.out]; kernel_rfl) ?_)
                    | (refine wpList_store_row rfl 79 (.tmp 6) (.tmp 170) rfl (w.heap.size + 1) (cellsW (addB s l)) rfl rfl 79 _ HBr.out (by rw [HSZ.out]; kernel_rfl) (by rw [HSZ.out, cellsW_size, List.length_replicate]) (cellsW_one _) ?_))
                  refine bodyPost_ret (results_cell_row rfl _ _ (w.heap.size + 1) 79 (cellsW (addB s l)) _ _ rfl (Blk.row HBr.out _) Tryd.underlying79 rfl (by rw [HSZ.out]; kernel_rfl)) rfl ?_
                  exact ⟨rfl, below_setRow HW.out (by omega) _⟩
end Go.Proofs.YtmaknbcfnigbmaaDoor
