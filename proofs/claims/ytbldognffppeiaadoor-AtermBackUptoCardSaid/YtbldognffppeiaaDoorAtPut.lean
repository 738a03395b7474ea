/- aterm.Put, walked (begun). -/
import Derived.Test.YtbldognffppeiaaDoorAtLists
import Derived.Test.YtbldognffppeiaaDoorAtRefPut
import Derived.Test.YtbldognffppeiaaDoorWalkSorts
namespace Go.Proofs.YtbldognffppeiaaDoor
open Go.RowKit Quo
set_option linter.unusedSimpArgs false
set_option linter.unusedVariables false
theorem put_join (d : Drv) : [68, 101, 114, 105, 118, 101, 40] ++ Lib.join ([tx ([91] ++ joinC (d.outs.map outD) ++ [93]), tx ([91] ++ joinC (d.ins.map inD) ++ [93]), tx (listD d.srcs), tx (quoS d.sys), tx (quoS d.bld), tx (listD d.args), tx ([91] ++ joinC (d.env.map envD) ++ [93])].map (·.data.toList)) [44] ++ [41] = textD d := by
  unfold textD tx
  simp [Lib.join_cons, Lib.joinTail]
theorem put_len {d : Drv} (hZ : Sized d) (hS : Short d) : (Lib.join ([tx ([91] ++ joinC (d.outs.map outD) ++ [93]), tx ([91] ++ joinC (d.ins.map inD) ++ [93]), tx (listD d.srcs), tx (quoS d.sys), tx (quoS d.bld), tx (listD d.args), tx ([91] ++ joinC (d.env.map envD) ++ [93])].map (·.data.toList)) (⟨#[44]⟩ : ByteArray).data.toList).length ≤ 140737488355328 := by
  have h1 := joinC_length (d.outs.map outD) 1024 6291466 (by rw [List.length_map]; exact hS.c0) (fun y hy => by obtain ⟨s, hs, rfl⟩ := List.mem_map.1 hy; exact outD_length s (hZ.so s hs))
  have h2 := joinC_length (d.ins.map inD) 1024 2149583880 (by rw [List.length_map]; exact hS.c1) (fun y hy => by obtain ⟨s, hs, rfl⟩ := List.mem_map.1 hy; exact inD_length s ⟨(hZ.si s hs).1, (hZ.si s hs).2, hS.ci s hs⟩)
  have h3 := joinC_length (d.env.map envD) 1024 4194311 (by rw [List.length_map]; exact hS.c6) (fun y hy => by obtain ⟨s, hs, rfl⟩ := List.mem_map.1 hy; exact envD_length s (hZ.se s hs))
  have h4 := listD_length d.srcs 1024 hS.c2 hZ.ss
  have h5 := listD_length d.args 1024 hS.c5 hZ.sa
  have h6 := quoS_length d.sys hZ.s3
  have h7 := quoS_length d.bld hZ.s4
  have e := put_join d
  have e2 := congrArg List.length e
  unfold textD at e2
  simp only [List.length_append, List.length_cons, List.length_nil] at e2
  show (Lib.join _ [44]).length ≤ _
  omega
theorem put_pack {d : Drv} (hZ : Sized d) (hS : Short d) {q0 q1 q2 q3 q4 q5 q6 : ByteArray} (h0 : q0 = tx ([91] ++ joinC (d.outs.map outD) ++ [93])) (h1 : q1 = tx ([91] ++ joinC (d.ins.map inD) ++ [93])) (h2 : q2 = tx (listD d.srcs)) (h3 : q3 = tx (quoS d.sys)) (h4 : q4 = tx (quoS d.bld)) (h5 : q5 = tx (listD d.args)) (h6 : q6 = tx ([91] ++ joinC (d.env.map envD) ++ [93])) : [68, 101, 114, 105, 118, 101, 40] ++ Lib.join ([q0, q1, q2, q3, q4, q5, q6].map (·.data.toList)) [44] ++ [41] = textD d ∧ (Lib.join ([q0, q1, q2, q3, q4, q5, q6].map (·.data.toList)) (⟨#[44]⟩ : ByteArray).data.toList).length ≤ 140737488355328 := by
  subst h0 h1 h2 h3 h4 h5 h6
  exact ⟨put_join d, put_len hZ hS⟩
theorem putQ {w : World} {f : Nat} {vs : Array Value} {T : ByteArray} (h : ∀ W : World, Below w.heap.size w W → Calls Tryd.prog f vs W fun e w' => e = .returned (.string T) ∧ Below W.heap.size W w') : ∃ q : ByteArray, Hid (q = T) ∧ Hid (∀ W : World, Below w.heap.size w W → Calls Tryd.prog f vs W fun e w' => e = .returned (.string q) ∧ Below W.heap.size W w') := ⟨T, rfl, h⟩
set_option maxHeartbeats 8000000 in
set_option maxRecDepth 1000000 in
theorem put_any (d : Drv) (a : DrvA) (hr : rightE d = 0) (hZ : Sized d) (w : World) (hT : Tabs w) (h : DrvAt w d a) : Calls Tryd.prog 10 #[.agg (drvCells d a)] w fun e w' => e = .returned (.tuple #[.string (putT d), .int .i64 (putE d)]) ∧ Below w.heap.size w w' := by
  have hb1 := Lib.hid ((Below.refl w.heap.size w).alloc (Nat.le_refl _) (.cells (drvCells d a) 29))
  have HC := Lib.hid (right_any d a _ (h.below hb1.out))
  have hBK : Hid (Blk (w.alloc (.cells (drvCells d a) 29)) w.heap.size 29 (drvCells d a)) := Blk.new w 29 _
  have hbk : Hid ((w.alloc (.cells (drvCells d a) 29)).heap[w.heap.size]? = some (.cells (drvCells d a) 29 (0, 0))) := heap_alloc_new w _
  have hsz : Hid ((drvCells d a).size = 7) := rfl
  have HS := Lib.hid (short_of hr)
  obtain ⟨q0, hq0, Q0⟩ := putQ (w := w) (fun W hb => list0_any a.A0 d.outs a.c0 HS.out.c0 hZ.so W (hT.below hb) (h.outs.below hb))
  obtain ⟨q1, hq1, Q1⟩ := putQ (w := w) (fun W hb => list1_any a.A1 d.ins a.c1 HS.out.c1 (fun x hx => ⟨(hZ.si x hx).1, (hZ.si x hx).2, HS.out.ci x hx⟩) W (hT.below hb) (h.ins.below hb))
  obtain ⟨q2, hq2, Q2⟩ := putQ (w := w) (fun W hb => listI_any a.A2 d.srcs a.c2 HS.out.c2 hZ.ss W (hT.below hb) (h.srcs.below hb))
  obtain ⟨q3, hq3, Q3⟩ := putQ (w := w) (fun W hb => quote_any d.sys W (hT.below hb) (by have := hZ.s3; omega))
  obtain ⟨q4, hq4, Q4⟩ := putQ (w := w) (fun W hb => quote_any d.bld W (hT.below hb) (by have := hZ.s4; omega))
  obtain ⟨q5, hq5, Q5⟩ := putQ (w := w) (fun W hb => listI_any a.A5 d.args a.c5 HS.out.c5 hZ.sa W (hT.below hb) (h.args.below hb))
  obtain ⟨q6, hq6, Q6⟩ := putQ (w := w) (fun W hb => list6_any a.A6 d.env a.c6 HS.out.c6 hZ.se W (hT.below hb) (h.env.below hb))
  have hpk := Lib.hid (put_pack hZ HS.out hq0.out hq1.out hq2.out hq3.out hq4.out hq5.out hq6.out)
  obtain ⟨cs, hcs⟩ : ∃ cs, Hid (cs = drvCells d a) := ⟨_, rfl⟩
  rw [← hcs.out] at hb1 HC hbk hsz hBK ⊢
  rw [hr] at HC
  obtain ⟨gd, hgd⟩ : ∃ gd, Hid (gd = w.heap.size) := ⟨_, rfl⟩
  go_enter Tryd.func10, Tryd.ntmps10
  go_upto_region 1 with (fail)
  go_upto_region 4 with (first
    | refine wpList_load_row rfl 29 (.tmp 1) rfl w.heap.size rfl 29 cs (0, 0) _ hbk.out Tryd.underlying29 rfl (by rw [hsz.out]; kernel_rfl) ?_
    | (go_at_call 12; refine HC.out.mono ?_; rintro e w1 ⟨rfl, hb⟩; have HB := Lib.hid (below_step' hb1.out hb); have hbk1 := Lib.hid (hBK.out.below hb hBK.out.lt); clear hb)
    | fail)
  rw [← hgd.out] at hbk1 ⊢
  rw [hcs.out] at hbk1
  have hF : Hid (∀ W, Below w1.heap.size w1 W → W.cell? ⟨gd, 0, none⟩ = some (.slice a.A0 d.outs.length a.c0) ∧ W.cell? ⟨gd, 1, none⟩ = some (.slice a.A1 d.ins.length a.c1) ∧ W.cell? ⟨gd, 2, none⟩ = some (.slice a.A2 d.srcs.length a.c2) ∧ W.cell? ⟨gd, 3, none⟩ = some (.string d.sys) ∧ W.cell? ⟨gd, 4, none⟩ = some (.string d.bld) ∧ W.cell? ⟨gd, 5, none⟩ = some (.slice a.A5 d.args.length a.c5) ∧ W.cell? ⟨gd, 6, none⟩ = some (.slice a.A6 d.env.length a.c6)) := fun W hb =>
    have h := hbk1.out.below hb hbk1.out.lt
    ⟨h.cell 0, h.cell 1, h.cell 2, h.cell 3, h.cell 4, h.cell 5, h.cell 6⟩
  refine Lefts.region (fun W => Below w1.heap.size w1 W) (fun _ => True) (List.range 23) (by kernel_rfl) (below_drewN' (Below.refl _ _) 1) trivial (fun hS1 _ => ?_)
  refine Lefts.takeA (i := 0) (u := .pointer (some ⟨gd, 0, none⟩)) rfl (by kernel_rfl) (by kernel_rfl) (by kernel_rfl) (by kernel_rfl) (fun _ _ _ h => h) (by assumption) (Or.inl ⟨by rfl, fun W hSW => by obtain ⟨y0, y1, y2, y3, y4, y5, y6⟩ := hF.out W hSW; go_simp⟩) ?_
  simp only [Act.put, List.setIfInBounds_toArray, List.set_cons_zero, List.set_cons_succ]
  refine Lefts.takeA (i := 1) (u := .slice a.A0 d.outs.length a.c0) rfl (by kernel_rfl) (by kernel_rfl) (by kernel_rfl) (by kernel_rfl) (fun _ _ _ h => h) (by assumption) (Or.inl ⟨by rfl, fun W hSW => by obtain ⟨y0, y1, y2, y3, y4, y5, y6⟩ := hF.out W hSW; go_simp⟩) ?_
  simp only [Act.put, List.setIfInBounds_toArray, List.set_cons_zero, List.set_cons_succ]
  refine Lefts.takeA (i := 3) (u := .pointer (some ⟨gd, 1, none⟩)) rfl (by kernel_rfl) (by kernel_rfl) (by kernel_rfl) (by kernel_rfl) (fun _ _ _ h => h) (by assumption) (Or.inl ⟨by rfl, fun W hSW => by obtain ⟨y0, y1, y2, y3, y4, y5, y6⟩ := hF.out W hSW; go_simp⟩) ?_
  simp only [Act.put, List.setIfInBounds_toArray, List.set_cons_zero, List.set_cons_succ]
  refine Lefts.takeA (i := 4) (u := .slice a.A1 d.ins.length a.c1) rfl (by kernel_rfl) (by kernel_rfl) (by kernel_rfl) (by kernel_rfl) (fun _ _ _ h => h) (by assumption) (Or.inl ⟨by rfl, fun W hSW => by obtain ⟨y0, y1, y2, y3, y4, y5, y6⟩ := hF.out W hSW; go_simp⟩) ?_
  simp only [Act.put, List.setIfInBounds_toArray, List.set_cons_zero, List.set_cons_succ]
  refine Lefts.takeA (i := 6) (u := .pointer (some ⟨gd, 2, none⟩)) rfl (by kernel_rfl) (by kernel_rfl) (by kernel_rfl) (by kernel_rfl) (fun _ _ _ h => h) (by assumption) (Or.inl ⟨by rfl, fun W hSW => by obtain ⟨y0, y1, y2, y3, y4, y5, y6⟩ := hF.out W hSW; go_simp⟩) ?_
  simp only [Act.put, List.setIfInBounds_toArray, List.set_cons_zero, List.set_cons_succ]
  refine Lefts.takeA (i := 7) (u := .slice a.A2 d.srcs.length a.c2) rfl (by kernel_rfl) (by kernel_rfl) (by kernel_rfl) (by kernel_rfl) (fun _ _ _ h => h) (by assumption) (Or.inl ⟨by rfl, fun W hSW => by obtain ⟨y0, y1, y2, y3, y4, y5, y6⟩ := hF.out W hSW; go_simp⟩) ?_
  simp only [Act.put, List.setIfInBounds_toArray, List.set_cons_zero, List.set_cons_succ]
  refine Lefts.takeA (i := 9) (u := .pointer (some ⟨gd, 3, none⟩)) rfl (by kernel_rfl) (by kernel_rfl) (by kernel_rfl) (by kernel_rfl) (fun _ _ _ h => h) (by assumption) (Or.inl ⟨by rfl, fun W hSW => by obtain ⟨y0, y1, y2, y3, y4, y5, y6⟩ := hF.out W hSW; go_simp⟩) ?_
  simp only [Act.put, List.setIfInBounds_toArray, List.set_cons_zero, List.set_cons_succ]
  refine Lefts.takeA (i := 10) (u := .string d.sys) rfl (by kernel_rfl) (by kernel_rfl) (by kernel_rfl) (by kernel_rfl) (fun _ _ _ h => h) (by assumption) (Or.inl ⟨by rfl, fun W hSW => by obtain ⟨y0, y1, y2, y3, y4, y5, y6⟩ := hF.out W hSW; go_simp⟩) ?_
  simp only [Act.put, List.setIfInBounds_toArray, List.set_cons_zero, List.set_cons_succ]
  refine Lefts.takeA (i := 12) (u := .pointer (some ⟨gd, 4, none⟩)) rfl (by kernel_rfl) (by kernel_rfl) (by kernel_rfl) (by kernel_rfl) (fun _ _ _ h => h) (by assumption) (Or.inl ⟨by rfl, fun W hSW => by obtain ⟨y0, y1, y2, y3, y4, y5, y6⟩ := hF.out W hSW; go_simp⟩) ?_
  simp only [Act.put, List.setIfInBounds_toArray, List.set_cons_zero, List.set_cons_succ]
  refine Lefts.takeA (i := 13) (u := .string d.bld) rfl (by kernel_rfl) (by kernel_rfl) (by kernel_rfl) (by kernel_rfl) (fun _ _ _ h => h) (by assumption) (Or.inl ⟨by rfl, fun W hSW => by obtain ⟨y0, y1, y2, y3, y4, y5, y6⟩ := hF.out W hSW; go_simp⟩) ?_
  simp only [Act.put, List.setIfInBounds_toArray, List.set_cons_zero, List.set_cons_succ]
  refine Lefts.takeA (i := 15) (u := .pointer (some ⟨gd, 5, none⟩)) rfl (by kernel_rfl) (by kernel_rfl) (by kernel_rfl) (by kernel_rfl) (fun _ _ _ h => h) (by assumption) (Or.inl ⟨by rfl, fun W hSW => by obtain ⟨y0, y1, y2, y3, y4, y5, y6⟩ := hF.out W hSW; go_simp⟩) ?_
  simp only [Act.put, List.setIfInBounds_toArray, List.set_cons_zero, List.set_cons_succ]
  refine Lefts.takeA (i := 16) (u := .slice a.A5 d.args.length a.c5) rfl (by kernel_rfl) (by kernel_rfl) (by kernel_rfl) (by kernel_rfl) (fun _ _ _ h => h) (by assumption) (Or.inl ⟨by rfl, fun W hSW => by obtain ⟨y0, y1, y2, y3, y4, y5, y6⟩ := hF.out W hSW; go_simp⟩) ?_
  simp only [Act.put, List.setIfInBounds_toArray, List.set_cons_zero, List.set_cons_succ]
  refine Lefts.takeA (i := 18) (u := .pointer (some ⟨gd, 6, none⟩)) rfl (by kernel_rfl) (by kernel_rfl) (by kernel_rfl) (by kernel_rfl) (fun _ _ _ h => h) (by assumption) (Or.inl ⟨by rfl, fun W hSW => by obtain ⟨y0, y1, y2, y3, y4, y5, y6⟩ := hF.out W hSW; go_simp⟩) ?_
  simp only [Act.put, List.setIfInBounds_toArray, List.set_cons_zero, List.set_cons_succ]
  refine Lefts.takeA (i := 19) (u := .slice a.A6 d.env.length a.c6) rfl (by kernel_rfl) (by kernel_rfl) (by kernel_rfl) (by kernel_rfl) (fun _ _ _ h => h) (by assumption) (Or.inl ⟨by rfl, fun W hSW => by obtain ⟨y0, y1, y2, y3, y4, y5, y6⟩ := hF.out W hSW; go_simp⟩) ?_
  simp only [Act.put, List.setIfInBounds_toArray, List.set_cons_zero, List.set_cons_succ]
  refine Lefts.one (i := 2) (by kernel_rfl) rfl (fun K hK => ?_)
  go_simp
  refine (Q0.out _ (HB.out.trans ((hS1).mono HB.out.size))).mono ?_
  rintro e v0 ⟨rfl, hb⟩
  have g0 : Below w1.heap.size w1 v0 := below_step' hS1 hb
  refine hK.out _ _ ⟨g0, fun _ => trivial⟩ ?_
  clear hK K hb
  try simp only [Act.put, List.setIfInBounds_toArray, List.set_cons_zero, List.set_cons_succ]
  refine Lefts.one (i := 5) (by kernel_rfl) rfl (fun K hK => ?_)
  go_simp
  refine (Q1.out _ (HB.out.trans ((g0).mono HB.out.size))).mono ?_
  rintro e v1 ⟨rfl, hb⟩
  have g1 : Below w1.heap.size w1 v1 := below_step' g0 hb
  refine hK.out _ _ ⟨g1, fun _ => trivial⟩ ?_
  clear hK K hb
  try simp only [Act.put, List.setIfInBounds_toArray, List.set_cons_zero, List.set_cons_succ]
  refine Lefts.one (i := 8) (by kernel_rfl) rfl (fun K hK => ?_)
  go_simp
  refine (Q2.out _ (HB.out.trans ((g1).mono HB.out.size))).mono ?_
  rintro e v2 ⟨rfl, hb⟩
  have g2 : Below w1.heap.size w1 v2 := below_step' g1 hb
  refine hK.out _ _ ⟨g2, fun _ => trivial⟩ ?_
  clear hK K hb
  try simp only [Act.put, List.setIfInBounds_toArray, List.set_cons_zero, List.set_cons_succ]
  refine Lefts.one (i := 11) (by kernel_rfl) rfl (fun K hK => ?_)
  go_simp
  refine (Q3.out _ (HB.out.trans ((g2).mono HB.out.size))).mono ?_
  rintro e v3 ⟨rfl, hb⟩
  have g3 : Below w1.heap.size w1 v3 := below_step' g2 hb
  refine hK.out _ _ ⟨g3, fun _ => trivial⟩ ?_
  clear hK K hb
  try simp only [Act.put, List.setIfInBounds_toArray, List.set_cons_zero, List.set_cons_succ]
  refine Lefts.one (i := 14) (by kernel_rfl) rfl (fun K hK => ?_)
  go_simp
  refine (Q4.out _ (HB.out.trans ((g3).mono HB.out.size))).mono ?_
  rintro e v4 ⟨rfl, hb⟩
  have g4 : Below w1.heap.size w1 v4 := below_step' g3 hb
  refine hK.out _ _ ⟨g4, fun _ => trivial⟩ ?_
  clear hK K hb
  try simp only [Act.put, List.setIfInBounds_toArray, List.set_cons_zero, List.set_cons_succ]
  refine Lefts.one (i := 17) (by kernel_rfl) rfl (fun K hK => ?_)
  go_simp
  refine (Q5.out _ (HB.out.trans ((g4).mono HB.out.size))).mono ?_
  rintro e v5 ⟨rfl, hb⟩
  have g5 : Below w1.heap.size w1 v5 := below_step' g4 hb
  refine hK.out _ _ ⟨g5, fun _ => trivial⟩ ?_
  clear hK K hb
  try simp only [Act.put, List.setIfInBounds_toArray, List.set_cons_zero, List.set_cons_succ]
  refine Lefts.one (i := 20) (by kernel_rfl) rfl (fun K hK => ?_)
  go_simp
  refine (Q6.out _ (HB.out.trans ((g5).mono HB.out.size))).mono ?_
  rintro e v6 ⟨rfl, hb⟩
  have g6 : Below w1.heap.size w1 v6 := below_step' g5 hb
  refine hK.out _ _ ⟨g6, fun _ => trivial⟩ ?_
  clear hK K hb
  try simp only [Act.put, List.setIfInBounds_toArray, List.set_cons_zero, List.set_cons_succ]
  refine Lefts.one (i := 21) (by kernel_rfl) rfl (fun K hK => ?_)
  go_simp
  refine hK.out _ _ ⟨g6.alloc g6.size _, fun _ => trivial⟩ ?_
  clear hK K
  try simp only [Act.put, List.setIfInBounds_toArray, List.set_cons_zero, List.set_cons_succ]
  refine Lefts.one (i := 22) (by kernel_rfl) rfl (fun K hK => ?_)
  go_simp
  refine hK.out _ _ ⟨g6.alloc g6.size _, fun _ => trivial⟩ ?_
  clear hK K
  try simp only [Act.put, List.setIfInBounds_toArray, List.set_cons_zero, List.set_cons_succ]
  refine Lefts.done (by kernel_rfl) ?_ _
  obtain ⟨qs, hqs⟩ : ∃ qs, Hid (qs = [q0, q1, q2, q3, q4, q5, q6]) := ⟨_, rfl⟩
  have hv7b : Hid (∀ j x, qs[j]? = some x → (v6.alloc (.cells (strCells [q0, q1, q2, q3, q4, q5, q6]) 9)).cell? ⟨v6.heap.size, j, none⟩ = some (.string x)) := fun j x hj => ((Blk.new v6 9 _).cell j).trans (strCells_at (by rw [hqs.out] at hj; exact hj))
  have HBv : Hid (Below w.heap.size w (v6.alloc (.cells (strCells [q0, q1, q2, q3, q4, q5, q6]) 9))) := (HB.out.trans (g6.mono HB.out.size)).alloc (by have h1 := HB.out.size; have h2 := g6.size; omega) _
  have hvs : Hid (v6.heap.size < (v6.alloc (.cells (strCells [q0, q1, q2, q3, q4, q5, q6]) 9)).heap.size) := by rw [Hid, World.size_alloc]; omega
  have hql : qs.length = 7 := by rw [hqs.out]; rfl
  rw [← hqs.out] at hpk
  have hv7e : v6.alloc (.cells (strCells [q0, q1, q2, q3, q4, q5, q6]) 9) = v6.alloc (.cells #[.string q0, .string q1, .string q2, .string q3, .string q4, .string q5, .string q6] 9) := rfl
  rw [hv7e] at hv7b HBv hvs
  clear hv7e hqs
  generalize v6.alloc (.cells #[.string q0, .string q1, .string q2, .string q3, .string q4, .string q5, .string q6] 9) = v7 at *
  generalize v6.heap.size = sg at *
  have hJ0 := Lib.hid (Tryd.strings_Join sg 0 7 qs ⟨#[44]⟩ v7 (fun j x hj => by rw [Nat.zero_add]; exact hv7b.out j x hj) (by have := hvs.out; omega) (by omega) (by omega) hpk.out.2)
  obtain ⟨J, hJq⟩ : ∃ J : ByteArray, ((⟨(Lib.join (qs.map (·.data.toList)) (⟨#[44]⟩ : ByteArray).data.toList).toArray⟩ : ByteArray) = J) := ⟨_, rfl⟩
  have hJ := Lib.hid hJq
  clear hJq
  have hJs : J.size ≤ 140737488355328 := by rw [← hJ.out]; exact Nat.le_trans (Nat.le_of_eq (tx_size _)) hpk.out.2
  have hJT : Hid ((⟨#[68, 101, 114, 105, 118, 101, 40]⟩ : ByteArray) ++ J ++ ⟨#[41]⟩ = tx (textD d)) := by
    rw [Hid, ← hJ.out, ← hpk.out.1]
    exact (congrArg (· ++ tx [41]) (tx_app [68, 101, 114, 105, 118, 101, 40] _)).trans (tx_app _ _)
  rw [hJ.out, hql] at hJ0
  clear hpk hv7b hql
  have e1 : ¬ 9223372036854775807 < 7 + J.size := by omega
  have e2 : ¬ 9223372036854775807 < 7 + J.size + 1 := by omega
  have hE : Hid (putE d = if 1048576 < 7 + J.size + 1 then 3 else 0) := by
    rw [Hid]
    unfold putE
    rw [if_pos hr, ← tx_size, ← hJT.out, ByteArray.size_append, ByteArray.size_append]
    rfl
  by_cases hbig : 1048576 < 7 + J.size + 1
  · have c1 : (1048576 : Int) < 7 + (J.size : Int) + 1 := by omega
    have hE3 : Hid (putE d = 3) := by rw [Hid, hE.out, if_pos hbig]
    have hT3 : Hid (putT d = ⟨#[]⟩) := by rw [Hid]; unfold putT; rw [hE3.out]; rfl
    clear hS1 g0 g1 g2 g3 g4 g5 g6 hr hZ hT h HS hF hBK hbk HC hb1 hbk1 hvs Q0 Q1 Q2 Q3 Q4 Q5 Q6 hq0 hq1 hq2 hq3 hq4 hq5 hq6 hJT hE hJ
    go_wp
    refine hJ0.out.mono ?_
    rintro e w9 ⟨rfl, hb⟩
    have HB9 := Lib.hid (HBv.out.trans (hb.mono HBv.out.size))
    clear hb
    dsimp only
    go_wp
    go_ret2
    exact ⟨put_ret hT3.out.symm hE3.out.symm, HB9.out⟩
  · have c1 : ¬ (1048576 : Int) < 7 + (J.size : Int) + 1 := by omega
    have hE3 : Hid (putE d = 0) := by rw [Hid, hE.out, if_neg hbig]
    have hT3 : Hid (putT d = (⟨#[68, 101, 114, 105, 118, 101, 40]⟩ : ByteArray) ++ J ++ ⟨#[41]⟩) := by rw [Hid, hJT.out]; unfold putT; rw [hE3.out, if_pos rfl]
    clear hS1 g0 g1 g2 g3 g4 g5 g6 hr hZ hT h HS hF hBK hbk HC hb1 hbk1 hvs Q0 Q1 Q2 Q3 Q4 Q5 Q6 hq0 hq1 hq2 hq3 hq4 hq5 hq6 hJT hE hJ
    go_wp
    refine hJ0.out.mono ?_
    rintro e w9 ⟨rfl, hb⟩
    have HB9 := Lib.hid (HBv.out.trans (hb.mono HBv.out.size))
    clear hb
    dsimp only
    go_wp
    go_ret2
    exact ⟨put_ret hT3.out.symm hE3.out.symm, HB9.out⟩
end Go.Proofs.YtbldognffppeiaaDoor
