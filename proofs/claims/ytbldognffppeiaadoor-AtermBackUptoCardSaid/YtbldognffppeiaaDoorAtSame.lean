/- stillroomref08.Same on two derivations that are alike answers true. -/
import Derived.Test.YtbldognffppeiaaDoorAtTexts
import Derived.Lib.QuietBelow
namespace Go.Proofs.YtbldognffppeiaaDoor
open Go.RowKit
set_option linter.unusedSimpArgs false
set_option linter.unusedVariables false
theorem quiet_shift {w v : World} {m a : Nat} (h : ∃ m', v = (w.drewN (m + a)).drewN m') : ∃ n, v = w.drewN (m + n) := by
  obtain ⟨m', h⟩ := h
  exact ⟨a + m', by rw [h, World.drewN_drewN, Nat.add_assoc]⟩
theorem drewN_below (w : World) (m : Nat) : Below w.heap.size w (w.drewN m) := below_drewN' (Below.refl _ _) m
set_option maxHeartbeats 4000000 in
set_option maxRecDepth 1000000 in
theorem same_any (d : Drv) (a a' : DrvA) (hfit : Fits d a) (w : World) (h : DrvAt w d a) (h' : DrvAt w d a') : Calls Tryd.prog 14 #[.agg (drvCells d a), .agg (drvCells d a')] w fun e w' => e = .returned (.bool true) ∧ Below w.heap.size w w' := by
  obtain ⟨ws, hws⟩ : ∃ ws, Hid ((w.alloc (.cells (drvCells d a) 29)).alloc (.cells (drvCells d a') 29) = ws) := ⟨_, rfl⟩
  obtain ⟨g, hg⟩ : ∃ g, Hid (w.heap.size = g) := ⟨_, rfl⟩
  have hb : Hid (Below w.heap.size w ws) := by
    rw [← hws.out]
    exact ((Below.refl w.heap.size w).alloc (Nat.le_refl _) _).alloc (by rw [World.size_alloc]; omega) _
  have H := Lib.hid (h.below hb.out)
  have H' := Lib.hid (h'.below hb.out)
  have HK' : Hid (Blk ws (g + 1) 29 (drvCells d a')) := by
    have h1 := Blk.new (w.alloc (.cells (drvCells d a) 29)) 29 (drvCells d a')
    rw [World.size_alloc, hg.out] at h1
    rw [← hws.out]
    exact h1
  have HK : Hid (Blk ws g 29 (drvCells d a)) := by
    have h1 := Blk.new w 29 (drvCells d a)
    rw [hg.out] at h1
    rw [← hws.out]
    exact h1.alloc _
  obtain ⟨n0, e0⟩ : ∃ n, Hid (n = d.outs.length) := ⟨_, rfl⟩
  obtain ⟨n1, e1⟩ : ∃ n, Hid (n = d.ins.length) := ⟨_, rfl⟩
  obtain ⟨n2, e2⟩ : ∃ n, Hid (n = d.srcs.length) := ⟨_, rfl⟩
  obtain ⟨n5, e5⟩ : ∃ n, Hid (n = d.args.length) := ⟨_, rfl⟩
  obtain ⟨n6, e6⟩ : ∃ n, Hid (n = d.env.length) := ⟨_, rfl⟩
  have b0 : n0 ≤ 1048576 := by rw [e0.out]; exact hfit.b0
  have b1 : n1 ≤ 1048576 := by rw [e1.out]; exact hfit.b1
  have b6 : n6 ≤ 1048576 := by rw [e6.out]; exact hfit.b6
  have C2 : Hid (Calls Tryd.prog 43 #[.slice a.A2 n2 a.c2, .slice a'.A2 n2 a'.c2] ws fun e w' => e = .returned (.bool true) ∧ ∃ m', w' = ws.drewN m') := by
    rw [e2.out]; exact texts_same _ _ _ _ _ hfit.b2 _ H.out.srcs H'.out.srcs
  have C5 : Hid (∀ m, Calls Tryd.prog 43 #[.slice a.A5 n5 a.c5, .slice a'.A5 n5 a'.c5] (ws.drewN m) fun e w' => e = .returned (.bool true) ∧ ∃ m', w' = (ws.drewN m).drewN m') := fun m => by
    rw [e5.out]; exact texts_same _ _ _ _ _ hfit.b5 _ (H.out.args.drewN m) (H'.out.args.drewN m)
  have CI : Hid (∀ (k : Nat) (x : ByteArray × List ByteArray), d.ins[k]? = some x → ∀ (A A' : Option Addr) (c c' m : Nat), StrsAt ws A x.2 → StrsAt ws A' x.2 → Calls Tryd.prog 43 #[.slice A x.2.length c, .slice A' x.2.length c'] (ws.drewN m) fun e w' => e = .returned (.bool true) ∧ ∃ m', w' = (ws.drewN m).drewN m') := fun k x hx A A' c c' m h1 h2 => texts_same _ _ _ _ _ (hfit.bi k x hx) _ (h1.drewN m) (h2.drewN m)
  have p0 : ws.cell? ⟨g, 0, none⟩ = some (.slice a.A0 n0 a.c0) := by rw [e0.out]; exact HK.out.cell 0
  have p1 : ws.cell? ⟨g, 1, none⟩ = some (.slice a.A1 n1 a.c1) := by rw [e1.out]; exact HK.out.cell 1
  have p2 : ws.cell? ⟨g, 2, none⟩ = some (.slice a.A2 n2 a.c2) := by rw [e2.out]; exact HK.out.cell 2
  have p3 : ws.cell? ⟨g, 3, none⟩ = some (.string d.sys) := HK.out.cell 3
  have p4 : ws.cell? ⟨g, 4, none⟩ = some (.string d.bld) := HK.out.cell 4
  have p5 : ws.cell? ⟨g, 5, none⟩ = some (.slice a.A5 n5 a.c5) := by rw [e5.out]; exact HK.out.cell 5
  have p6 : ws.cell? ⟨g, 6, none⟩ = some (.slice a.A6 n6 a.c6) := by rw [e6.out]; exact HK.out.cell 6
  have r0 : ws.cell? ⟨g + 1, 0, none⟩ = some (.slice a'.A0 n0 a'.c0) := by rw [e0.out]; exact HK'.out.cell 0
  have r1 : ws.cell? ⟨g + 1, 1, none⟩ = some (.slice a'.A1 n1 a'.c1) := by rw [e1.out]; exact HK'.out.cell 1
  have r2 : ws.cell? ⟨g + 1, 2, none⟩ = some (.slice a'.A2 n2 a'.c2) := by rw [e2.out]; exact HK'.out.cell 2
  have r3 : ws.cell? ⟨g + 1, 3, none⟩ = some (.string d.sys) := HK'.out.cell 3
  have r4 : ws.cell? ⟨g + 1, 4, none⟩ = some (.string d.bld) := HK'.out.cell 4
  have r5 : ws.cell? ⟨g + 1, 5, none⟩ = some (.slice a'.A5 n5 a'.c5) := by rw [e5.out]; exact HK'.out.cell 5
  have r6 : ws.cell? ⟨g + 1, 6, none⟩ = some (.slice a'.A6 n6 a'.c6) := by rw [e6.out]; exact HK'.out.cell 6
  obtain ⟨cs, hcs⟩ : ∃ cs, Hid (drvCells d a = cs) := ⟨_, rfl⟩
  obtain ⟨cs', hcs'⟩ : ∃ cs, Hid (drvCells d a' = cs) := ⟨_, rfl⟩
  rw [hcs.out] at hws ⊢
  rw [hcs'.out] at hws ⊢
  clear h h' HK HK' hcs hcs' hfit
  go_enter Tryd.func14, Tryd.ntmps14
  go_upto_region 1 with (fail)
  rw [hws.out, hg.out]
  clear hws
  go_upto_region 3 with (first
    | (go_at_call 43; with_reducible refine C2.out.mono ?_; rintro e w1 ⟨rfl, m2, rfl⟩)
    | (go_at_call 43; with_reducible refine (C5.out m2).mono ?_; rintro e w1 ⟨rfl, m5, rfl⟩)
    | fail)
  clear p2 p3 p4 p5 r2 r3 r4 r5 C2 C5
  generalize m2 + m5 = m0
  go_wp2_with fail
  go_loopw [5] (fun t5 wr => ∃ k m : Nat, t5 = .int .i64 k ∧ k ≤ n0 ∧ wr = ws.drewN m) (fun t5 _ => n0 - (intOf t5).toNat)
  case atStart => exact ⟨0, m0, rfl, Nat.zero_le _, rfl⟩
  case round =>
    obtain ⟨k, m, rfl, hk, rfl⟩ := hrel
    by_cases hlt : k < n0
    · obtain ⟨x, hx⟩ : ∃ x, Hid (d.outs[k]? = some x) := ⟨_, List.getElem?_eq_getElem (by rw [← e0.out]; exact hlt)⟩
      obtain ⟨b, o, hA, q1, q2, q3⟩ := H.out.outs k x hx.out
      obtain ⟨b', o', hA', q1', q2', q3'⟩ := H'.out.outs k x hx.out
      rw [hA] at p0
      rw [hA'] at r0
      clear hA hA'
      have d1 : (k : Int) < (n0 : Int) := by omega
      have d2 : (0 : Int) ≤ (k : Int) := by omega
      go_upto_region 6 with (fail)
      go_quiet (fail)
      go_wp2_with fail
      exact ⟨⟨k + 1, m + nq, by first | rfl | simp, by omega, rfl⟩, by simp [intOf]; omega⟩
    · obtain rfl : n0 = k := by omega
      have d1 : ¬ (n0 : Int) < (n0 : Int) := by omega
      go_wp2_with fail
      clear p0 r0 b0 hk hlt d1
      generalize hm0 : m = m1
      clear hm0
      go_loopw [6] (fun t6 wr => ∃ k m : Nat, t6 = .int .i64 k ∧ k ≤ n1 ∧ wr = ws.drewN m) (fun t6 _ => n1 - (intOf t6).toNat)
      case atStart => exact ⟨0, m1, rfl, Nat.zero_le _, rfl⟩
      case round =>
        obtain ⟨k, m, rfl, hk, rfl⟩ := hrel
        by_cases hlt : k < n1
        · obtain ⟨x, hx⟩ : ∃ x, Hid (d.ins[k]? = some x) := ⟨_, List.getElem?_eq_getElem (by rw [← e1.out]; exact hlt)⟩
          obtain ⟨b, o, An, cn, hA, q1, q2, hq⟩ := H.out.ins k x hx.out
          obtain ⟨b', o', An', cn', hA', q1', q2', hq'⟩ := H'.out.ins k x hx.out
          have CK := Lib.hid (CI.out k x hx.out An An' cn cn')
          have hS := Lib.hid hq
          have hS' := Lib.hid hq'
          obtain ⟨nx, hnx⟩ : ∃ nx, Hid (x.2.length = nx) := ⟨_, rfl⟩
          rw [hnx.out] at q2 q2' CK
          rw [hA] at p1
          rw [hA'] at r1
          clear hA hA' hq hq'
          have d1 : (k : Int) < (n1 : Int) := by omega
          have d2 : (0 : Int) ≤ (k : Int) := by omega
          go_upto_region 11 with (fail)
          go_quiet (exact (CK.out _ hS.out.2.2.1 hS'.out.2.2.1).mono fun _ _ h => ⟨h.1, quiet_shift h.2⟩)
          go_wp2_with fail
          exact ⟨⟨k + 1, m + nq, by first | rfl | simp, by omega, rfl⟩, by simp [intOf]; omega⟩
        · obtain rfl : n1 = k := by omega
          have d1 : ¬ (n1 : Int) < (n1 : Int) := by omega
          go_wp2_with fail
          clear p1 r1 b1 hk hlt d1 CI
          generalize hm1 : m = m3
          clear hm1
          go_loopw [7] (fun t7 wr => ∃ k m : Nat, t7 = .int .i64 k ∧ k ≤ n6 ∧ wr = ws.drewN m) (fun t7 _ => n6 - (intOf t7).toNat)
          case atStart => exact ⟨0, m3, rfl, Nat.zero_le _, rfl⟩
          case round =>
            obtain ⟨k, m, rfl, hk, rfl⟩ := hrel
            by_cases hlt : k < n6
            · obtain ⟨x, hx⟩ : ∃ x, Hid (d.env[k]? = some x) := ⟨_, List.getElem?_eq_getElem (by rw [← e6.out]; exact hlt)⟩
              obtain ⟨b, o, hA, q1, q2⟩ := H.out.env k x hx.out
              obtain ⟨b', o', hA', q1', q2'⟩ := H'.out.env k x hx.out
              rw [hA] at p6
              rw [hA'] at r6
              clear hA hA'
              have d1 : (k : Int) < (n6 : Int) := by omega
              have d2 : (0 : Int) ≤ (k : Int) := by omega
              go_upto_region 16 with (fail)
              go_quiet (fail)
              go_wp2_with fail
              exact ⟨⟨k + 1, m + nq, by first | rfl | simp, by omega, rfl⟩, by simp [intOf]; omega⟩
            · obtain rfl : n6 = k := by omega
              have d1 : ¬ (n6 : Int) < (n6 : Int) := by omega
              go_wp2_with fail
              go_ret
              exact ⟨rfl, hb.out.trans ((drewN_below ws m).mono hb.out.size)⟩
end Go.Proofs.YtbldognffppeiaaDoor
