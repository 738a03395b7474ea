/- AtermPuts, walked. -/
import Derived.Test.YtbldognffppeiaaDoorAtPut
import Derived.Test.YtbldognffppeiaaDoorAtSame
namespace Go.Proofs.YtbldognffppeiaaDoor
open Go.RowKit Go.Sort
set_option linter.unusedSimpArgs false
set_option linter.unusedVariables false
/-- Put, of any derivation. -/
theorem put_all (d : Drv) (a : DrvA) (hZ : Sized d) (w : World) (hT : Tabs w) (h : DrvAt w d a) : Calls Tryd.prog 10 #[.agg (drvCells d a)] w fun e w' => e = .returned (.tuple #[.string (putT d), .int .i64 (putE d)]) ∧ Below w.heap.size w w' := by
  by_cases hr : rightE d = 0
  · exact put_any d a hr hZ w hT h
  · have hE : putE d = rightE d := by unfold putE; rw [if_neg hr]
    have hT3 : putT d = ⟨#[]⟩ := by unfold putT; rw [hE, if_neg hr]
    rw [hE, hT3]
    exact put_bad d a w h _ rfl hr
theorem same_to {W : World} {f : Nat} {vs : Array Value} {v : Value} (h : Calls Tryd.prog f vs W fun e w' => e = .returned v ∧ w' = W) : Calls Tryd.prog f vs W fun e w' => e = .returned v ∧ Below W.heap.size W w' := h.mono fun _ _ h => ⟨h.1, by rw [h.2]; exact Below.refl _ _⟩
set_option maxHeartbeats 4000000 in
set_option maxRecDepth 1000000 in
theorem puts_any (d : Drv) (a : DrvA) (hfit : Fits d a) (hZ : Sized d) (w : World) (hT : Tabs w) (h : DrvAt w d a) : Calls Tryd.prog 4 #[.agg (drvCells d a)] w fun e w' => e = .returned (.bool true) ∧ Below w.heap.size w w' := by
  have hb1 := Lib.hid ((Below.refl w.heap.size w).alloc (Nat.le_refl _) (.cells (drvCells d a) 29))
  have hBK : Hid (Blk (w.alloc (.cells (drvCells d a) 29)) w.heap.size 29 (drvCells d a)) := Blk.new w 29 _
  have hbk : Hid ((w.alloc (.cells (drvCells d a) 29)).heap[w.heap.size]? = some (.cells (drvCells d a) 29 (0, 0))) := heap_alloc_new w _
  have hsz : Hid ((drvCells d a).size = 7) := rfl
  have HC := Lib.hid (own_any d a hfit _ (h.below hb1.out))
  have HZ := Lib.hid hZ
  have HFT := Lib.hid hfit
  have HTw : Hid (∀ W, Below w.heap.size w W → Tabs W) := fun W hb => hT.below hb
  have HDw : Hid (∀ W, Below w.heap.size w W → DrvAt W d a) := fun W hb => h.below hb
  obtain ⟨cs, hcs⟩ : ∃ cs, Hid (cs = drvCells d a) := ⟨_, rfl⟩
  rw [← hcs.out] at hb1 HC hbk hsz hBK ⊢
  clear h hfit hZ hT
  go_enter Tryd.func4, Tryd.ntmps4
  go_upto_region 1 with (fail)
  go_upto_region 2 with (first
    | refine wpList_load_row rfl 29 (.tmp 1) rfl w.heap.size rfl 29 cs (0, 0) _ hbk.out Tryd.underlying29 rfl (by rw [hsz.out]; kernel_rfl) ?_
    | (go_at_call 9; refine HC.out.mono ?_; rintro e w1 ⟨⟨a', rfl, hD⟩, hb⟩; have HD := Lib.hid hD; have HBW := Lib.hid (below_step' hb1.out hb); have hBK1 := Lib.hid (hBK.out.below hb hBK.out.lt); clear hb hD)
    | refine wpList_store_row rfl 29 (.tmp 3) (.tmp 9) rfl w1.heap.size (drvCells d a') rfl rfl 29 _ (heap_alloc_new w1 _) (by kernel_rfl) rfl (by simp [drvCells, Value.oneCell']) ?_
    | fail)
  have HB : Hid (Below w1.heap.size w1 ((w1.alloc (.cells #[.slice none 0 0, .slice none 0 0, .slice none 0 0, .string ⟨#[]⟩, .string ⟨#[]⟩, .slice none 0 0, .slice none 0 0] 29)).setRow w1.heap.size (drvCells d a'))) := below_setRow ((Below.refl _ _).alloc (Nat.le_refl _) _) (Nat.le_refl _) _
  have HK : Hid (Blk ((w1.alloc (.cells #[.slice none 0 0, .slice none 0 0, .slice none 0 0, .string ⟨#[]⟩, .string ⟨#[]⟩, .slice none 0 0, .slice none 0 0] 29)).setRow w1.heap.size (drvCells d a')) w1.heap.size 29 (drvCells d a')) := Blk.row (Blk.new w1 29 _) _
  obtain ⟨gp, hgp⟩ : ∃ gp, Hid (w1.heap.size = gp) := ⟨_, rfl⟩
  obtain ⟨gd, hgd⟩ : ∃ gd, Hid (w.heap.size = gd) := ⟨_, rfl⟩
  have hlt1 := Lib.hid hBK1.out.lt
  rw [hgd.out] at hBK1 hlt1
  rw [hgp.out] at HB HK ⊢
  rw [hgd.out] at ⊢
  have hBKd : Hid (Blk ((w1.alloc (.cells #[.slice none 0 0, .slice none 0 0, .slice none 0 0, .string ⟨#[]⟩, .string ⟨#[]⟩, .slice none 0 0, .slice none 0 0] 29)).setRow gp (drvCells d a')) gd 29 cs) := hBK1.out.below HB.out (by rw [← hgp.out]; exact hlt1.out)
  generalize (w1.alloc (.cells #[.slice none 0 0, .slice none 0 0, .slice none 0 0, .string ⟨#[]⟩, .string ⟨#[]⟩, .slice none 0 0, .slice none 0 0] 29)).setRow gp (drvCells d a') = ws at *
  have HBs : Hid (Below w.heap.size w ws) := sorts_below HBW.out hgp.out HB.out
  have HDs : Hid (DrvAt ws d a') := HD.out.below (by rw [hgp.out]; exact HB.out)
  have HP := Lib.hid (put_all d a' HZ.out ws (HTw.out ws HBs.out) HDs.out)
  have hK : Hid (ws.heap[gp]? = some (.cells (drvCells d a') 29 (0, 0))) := HK.out
  have hszd : Hid ((drvCells d a').size = 7) := rfl
  clear hb1 HC hbk hBK hBK1 hlt1
  go_upto_region 3 with (first
    | refine wpList_load_row rfl 29 (.tmp 3) rfl gp rfl 29 (drvCells d a') (0, 0) _ hK.out Tryd.underlying29 rfl (by rw [hszd.out]; kernel_rfl) ?_
    | (go_at_call 10; refine HP.out.mono ?_; rintro e w2 ⟨rfl, hb⟩; have HB2 := Lib.hid hb; clear hb)
    | fail)
  have HBd2 := Lib.hid (below_step' HBs.out HB2.out)
  have HRP := Lib.hid (refPut_any d a HZ.out w2 (HDw.out w2 HBd2.out))
  have hKd2 : Hid (w2.heap[gd]? = some (.cells cs 29 (0, 0))) := hBKd.out.below HB2.out hBKd.out.lt
  have hKp2 : Hid (Blk w2 gp 29 (drvCells d a')) := HK.out.below HB2.out HK.out.lt
  rw [← hcs.out] at HRP
  clear HP hK
  go_upto_region 4 with (first
    | refine wpList_load_row rfl 29 (.tmp 1) rfl gd rfl 29 cs (0, 0) _ hKd2.out Tryd.underlying29 rfl (by rw [hsz.out]; kernel_rfl) ?_
    | (go_at_call 11; refine HRP.out.mono ?_; rintro e w3 ⟨rfl, hb⟩; have HB3 := Lib.hid hb; clear hb)
    | fail)
  have HBd3 := Lib.hid (below_step' HBd2.out HB3.out)
  have hKd3 : Hid (Blk w3 gd 29 (drvCells d a)) := by
    have h1 : Blk w2 gd 29 cs := hKd2.out
    rw [hcs.out] at h1
    exact h1.below HB3.out h1.lt
  have hKp3 : Hid (Blk w3 gp 29 (drvCells d a')) := hKp2.out.below HB3.out hKp2.out.lt
  have HD3 : Hid (DrvAt w3 d a') := (HDs.out.below HB2.out).below HB3.out
  have HDd3 : Hid (DrvAt w3 d a) := HDw.out w3 HBd3.out
  have C1 : Hid (∀ dd os, Calls Tryd.prog 12 #[.agg (drvCells d a')] (grow (redrawn w3 dd) os) fun e w'' => e = .returned (.int .i64 (rightE d)) ∧ ∃ p : Regrown, w'' = grow (redrawn w3 p.d) p.os) := fun dd os => Calls.regrown_of (right_any d a' _ (HD3.out.below (below_regrown w3 dd os)))
  have C2 : Hid (∀ dd os, Calls Tryd.prog 13 #[.agg (drvCells d a)] (grow (redrawn w3 dd) os) fun e w'' => e = .returned (.int .i64 (rightE d)) ∧ ∃ p : Regrown, w'' = grow (redrawn w3 p.d) p.os) := fun dd os => Calls.regrown_of (refRight_any d a _ (HDd3.out.below (below_regrown w3 dd os)))
  have C3 : Hid (∀ dd os, Calls Tryd.prog 14 #[.agg (drvCells d a'), .agg (drvCells d a)] (grow (redrawn w3 dd) os) fun e w'' => e = .returned (.bool true) ∧ ∃ p : Regrown, w'' = grow (redrawn w3 p.d) p.os) := fun dd os => Calls.regrown_of (same_any d a' a ⟨HFT.out.b0, HFT.out.b1, HFT.out.b2, HFT.out.b5, HFT.out.b6, HFT.out.bi⟩ _ (HD3.out.below (below_regrown w3 dd os)) (HDd3.out.below (below_regrown w3 dd os)))
  have C4 : Hid (∀ dd os, Calls Tryd.prog 15 #[] (grow (redrawn w3 dd) os) fun e w'' => e = .returned (.bool true) ∧ ∃ p : Regrown, w'' = grow (redrawn w3 p.d) p.os) := fun dd os => Calls.regrown_of (same_to (names_any _))
  obtain ⟨n0, e0⟩ : ∃ n, Hid (d.outs.length = n) := ⟨_, rfl⟩
  obtain ⟨n1, e1⟩ : ∃ n, Hid (d.ins.length = n) := ⟨_, rfl⟩
  obtain ⟨n2, e2⟩ : ∃ n, Hid (d.srcs.length = n) := ⟨_, rfl⟩
  obtain ⟨n5, e5⟩ : ∃ n, Hid (d.args.length = n) := ⟨_, rfl⟩
  obtain ⟨n6, e6⟩ : ∃ n, Hid (d.env.length = n) := ⟨_, rfl⟩
  unfold drvCells at C1 C2 C3 hKd3 hKp3
  rw [e0.out, e1.out, e2.out, e5.out, e6.out] at C1 C2 C3 hKd3 hKp3
  obtain ⟨pt, hpt⟩ : ∃ p, Hid (putT d = p) := ⟨_, rfl⟩
  obtain ⟨pe, hpe⟩ : ∃ p, Hid (putE d = p) := ⟨_, rfl⟩
  obtain ⟨re, hre⟩ : ∃ p, Hid (rightE d = p) := ⟨_, rfl⟩
  rw [hpt.out, hpe.out]
  rw [hre.out] at C1 C2
  clear HRP hKd2 hKp2 hszd HK HB hBKd
  have p0 := cell_regrown (hKp3.out.cell 0)
  have p1 := cell_regrown (hKp3.out.cell 1)
  have p2 := cell_regrown (hKp3.out.cell 2)
  have p3 := cell_regrown (hKp3.out.cell 3)
  have p4 := cell_regrown (hKp3.out.cell 4)
  have p5 := cell_regrown (hKp3.out.cell 5)
  have p6 := cell_regrown (hKp3.out.cell 6)
  have r0 := cell_regrown (hKd3.out.cell 0)
  have r1 := cell_regrown (hKd3.out.cell 1)
  have r2 := cell_regrown (hKd3.out.cell 2)
  have r3 := cell_regrown (hKd3.out.cell 3)
  have r4 := cell_regrown (hKd3.out.cell 4)
  have r5 := cell_regrown (hKd3.out.cell 5)
  have r6 := cell_regrown (hKd3.out.cell 6)
  refine wp_region_quiet_below (by kernel_rfl) (by kernel_rfl) ?_
  repeat (quiet_step (first | with_reducible exact C1.out _ _ | with_reducible exact C2.out _ _ | with_reducible exact C3.out _ _ | with_reducible exact C4.out _ _))
  refine wpQuiet_nil ?_
  intro _ hw'
  obtain ⟨⟨dq, osq⟩, hw''⟩ := hw'
  subst hw''
  go_wp2_with fail
  go_ret
  exact ⟨rfl, below_step' HBd3.out (below_regrown w3 dq osq)⟩
end Go.Proofs.YtbldognffppeiaaDoor
