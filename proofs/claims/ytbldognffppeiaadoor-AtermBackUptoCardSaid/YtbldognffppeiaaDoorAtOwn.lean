/- stillroomlaw08.Own, walked: a derivation in memory of its own. -/
import Derived.Test.YtbldognffppeiaaDoorAtOwnInv
import Derived.Deep.RegionHeld3
import Derived.Test.YtbldognffppeiaaDoorHeldE
import Derived.Outline
namespace Go.Proofs.YtbldognffppeiaaDoor
open Go.RowKit
set_option linter.unusedSimpArgs false
set_option linter.unusedVariables false
theorem info49' : (Tryd.prog.info? 49).map (fun i => (i.zero, i.size, i.bytes)) = some (some (.agg #[.string ⟨#[]⟩, .string ⟨#[]⟩, .string ⟨#[]⟩]), 3, 48) := by kernel_rfl
theorem info61' : (Tryd.prog.info? 61).map (fun i => (i.zero, i.size, i.bytes)) = some (some (.agg #[.string ⟨#[]⟩, .slice none 0 0]), 2, 40) := by kernel_rfl
theorem info70' : (Tryd.prog.info? 70).map (fun i => (i.zero, i.size, i.bytes)) = some (some (.agg #[.string ⟨#[]⟩, .string ⟨#[]⟩]), 2, 32) := by kernel_rfl
/-- An append of whatever, nil let in, to what is owned, of elements of any size. -/
theorem append_anyS {P : Program} {w : World} {ops : Array Oper} {rest : List Oper} {o : Oper} {a : Act} {Q : Exit → Act → World → Prop} (hgd : o.guard = none) (s x : Operand) (t : TypeId)
    (ho : o.op = .call { callee := .builtin .append, args := #[s, x], argTypes := #[t, t] })
    (base : Nat) (e : TypeId) (i : TypeInfo) (z : Value) (size bytes : Nat) (ht : P.underlying t = some (.slice e)) (hi : P.info? e = some i) (hz : i.zero = some z)
    (hsize : i.size = size) (hby : i.bytes = bytes) (hzs : z.cells.size = size) (hsz : 0 < size)
    (v : Value) (n : Nat) (xs : List Value) (hs : a.eval s = v) (hown : w.ownsRow base e size v n xs)
    (A : Option Addr) (m c : Nat) (news : List Value) (hx : a.eval x = .slice A m c) (hl : news.length = m * size) (hnone : A = none → m = 0 ∧ c = 0) (hnews : ∀ ad, A = some ad → ∀ j u, news[j]? = some u → w.cell? (ad.add j) = some u) (h1 : ∀ u ∈ news, u.oneCell' = true)
    (h63 : n + m ≤ maxLen) (hbytes : (n + m) * bytes ≤ 140737488355328) (hbase : base ≤ w.heap.size)
    (h : ∀ v' w', w'.ownsRow base e size v' (n + m) (xs ++ news) → Below base w w' → wpList P ops Q rest (a.put o.dst v') w') : wpList P ops Q (o :: rest) a w := by
  cases A with
  | none =>
    obtain ⟨rfl, rfl⟩ := hnone rfl
    obtain rfl : news = [] := List.eq_nil_of_length_eq_zero (by omega)
    refine wpList_append_own_none hgd s x t ho base e i size ht hi v n xs hs hown hx ?_
    exact h v w (by simpa using hown) (Below.refl _ _)
  | some ad =>
    refine wpList_append_own _ hgd s x t ho base e i z size bytes ht hi hz hsize hby hzs hsz v n xs hs hown ad m c news hx hl (hnews ad rfl) h1 h63 hbytes hbase ?_
    intro v' w' h2 h3 _
    exact h v' w' h2 ((Below.refl _ w).grown h3 hbase (fun k hk => (hown.lt k hk).1))
/-- A step of a drawn region: the same, of elements of one cell. -/
theorem step_append_any {P : Program} {w : World} {ops : Array Oper} {o : Oper} {a : Act} {K : Act → World → Prop} {Q : Exit → Act → World → Prop} {E : Prop} (hgd : o.guard = none) (s x : Operand) (t : TypeId)
    (ho : o.op = .call { callee := .builtin .append, args := #[s, x], argTypes := #[t, t] })
    (base : Nat) (e : TypeId) (i : TypeInfo) (z : Value) (bytes : Nat) (ht : P.underlying t = some (.slice e)) (hi : P.info? e = some i) (hz : i.zero = some z)
    (hsize : i.size = 1) (hby : i.bytes = bytes) (hzs : z.cells.size = 1)
    (v : Value) (n : Nat) (xs : List Value) (hs : a.eval s = v) (hown : w.ownsRow base e 1 v n xs)
    (A : Option Addr) (m c : Nat) (news : List Value) (hx : a.eval x = .slice A m c) (hl : news.length = m) (hnone : A = none → m = 0 ∧ c = 0) (hnews : ∀ ad, A = some ad → ∀ j u, news[j]? = some u → w.cell? (ad.add j) = some u) (h1 : ∀ u ∈ news, u.oneCell' = true)
    (h63 : n + m ≤ maxLen) (hbytes : (n + m) * bytes ≤ 140737488355328) (hbase : base ≤ w.heap.size)
    (h : ∀ v' w', w'.ownsRow base e 1 v' (n + m) (xs ++ news) → Below base w w' → K (a.put o.dst v') w') : if Region.wanted o (yielded ops a.tmps) = true then Oper.wp P o a w K Q else E := by
  have hw : Region.wanted o (yielded ops a.tmps) = true := by simp [Region.wanted, hgd]
  rw [if_pos hw]
  cases A with
  | none =>
    obtain ⟨rfl, rfl⟩ := hnone rfl
    obtain rfl : news = [] := List.eq_nil_of_length_eq_zero hl
    have hrun := run_append_owned_none (P := P) (w := w) base t o.type e i 1 ht hi v n xs hown
    unfold Oper.wp
    simp [execOp, ho, resolve, invoke, builtin, hs, hx, hrun, Result.andThen]
    exact h v w (by simpa using hown) (Below.refl _ _)
  | some ad =>
    refine wp_append_own w s x t ho base e i z 1 bytes ht hi hz hsize hby hzs (by decide) v n xs hs hown ad m c news hx (by omega) (hnews ad rfl) h1 h63 hbytes hbase ?_
    intro v' w' h2 h3 _
    exact h v' w' h2 ((Below.refl _ w).grown h3 hbase (fun k hk => (hown.lt k hk).1))
/-- What the loads of an input's step rest on. -/
def OwnS (go gd g o k : Nat) (v1 vA vn : Value) (s : ByteArray) (W : World) : Prop := W.cell? ⟨go, 1, none⟩ = some v1 ∧ W.cell? ⟨gd, 1, none⟩ = some vA ∧ W.cell? ⟨g, o + k * 2, none⟩ = some (.string s) ∧ W.cell? ⟨g, o + k * 2 + 1, none⟩ = some vn
/-- What is asked of a derivation's size. -/
structure Fits (d : Drv) (a : DrvA) : Prop where
  b0 : d.outs.length ≤ 1048576
  b1 : d.ins.length ≤ 1048576
  b2 : d.srcs.length ≤ 1048576
  b5 : d.args.length ≤ 1048576
  b6 : d.env.length ≤ 1048576
  bi : ∀ (j : Nat) (x : ByteArray × List ByteArray), d.ins[j]? = some x → x.2.length ≤ 1048576
set_option maxHeartbeats 4000000 in
set_option maxRecDepth 100000 in
theorem own_any (d : Drv) (a : DrvA) (hfit : Fits d a) (w : World) (h : DrvAt w d a) : Calls Tryd.prog 9 #[.agg (drvCells d a)] w fun e w' => (∃ a', e = .returned (.agg (drvCells d a')) ∧ DrvAt w' d a') ∧ Below w.heap.size w w' := by
  have hb1 := Lib.hid ((Below.refl w.heap.size w).alloc (Nat.le_refl _) (.cells (drvCells d a) 29))
  have H1 := Lib.hid (h.below hb1.out)
  have hbk : Hid ((w.alloc (.cells (drvCells d a) 29)).heap[w.heap.size]? = some (.cells (drvCells d a) 29 (0, 0))) := heap_alloc_new w _
  have HFT := Lib.hid hfit
  obtain ⟨n0, hn0⟩ : ∃ n, Hid (n = d.outs.length) := ⟨_, rfl⟩
  obtain ⟨n1, hn1⟩ : ∃ n, Hid (n = d.ins.length) := ⟨_, rfl⟩
  obtain ⟨n2, hn2⟩ : ∃ n, Hid (n = d.srcs.length) := ⟨_, rfl⟩
  obtain ⟨n5, hn5⟩ : ∃ n, Hid (n = d.args.length) := ⟨_, rfl⟩
  obtain ⟨n6, hn6⟩ : ∃ n, Hid (n = d.env.length) := ⟨_, rfl⟩
  have b0 : n0 ≤ 1048576 := by rw [hn0.out]; exact hfit.b0
  have b1 : n1 ≤ 1048576 := by rw [hn1.out]; exact hfit.b1
  have b2 : n2 ≤ 1048576 := by rw [hn2.out]; exact hfit.b2
  have b5 : n5 ≤ 1048576 := by rw [hn5.out]; exact hfit.b5
  have b6 : n6 ≤ 1048576 := by rw [hn6.out]; exact hfit.b6
  clear h hfit
  have hdc : Hid (∀ a', drvCells d a' = #[.slice a'.A0 n0 a'.c0, .slice a'.A1 n1 a'.c1, .slice a'.A2 n2 a'.c2, .string d.sys, .string d.bld, .slice a'.A5 n5 a'.c5, .slice a'.A6 n6 a'.c6]) := fun a' => by unfold drvCells; rw [← hn0.out, ← hn1.out, ← hn2.out, ← hn5.out, ← hn6.out]
  rw [hdc.out] at hb1 hbk H1 ⊢
  obtain ⟨A0, A1, A2, A5, A6, c0, c1, c2, c5, c6⟩ := a
  dsimp only at hb1 hbk H1 ⊢
  go_enter Tryd.func9, Tryd.ntmps9
  go_upto_region 1 with (fail)
  have hB2 : Hid (Below w.heap.size w ((w.alloc (.cells #[.slice A0 n0 c0, .slice A1 n1 c1, .slice A2 n2 c2, .string d.sys, .string d.bld, .slice A5 n5 c5, .slice A6 n6 c6] 29)).alloc (.cells #[.slice none 0 0, .slice none 0 0, .slice none 0 0, .string ⟨#[]⟩, .string ⟨#[]⟩, .slice none 0 0, .slice none 0 0] 29))) := hb1.out.alloc hb1.out.size _
  have H2 := Lib.hid (H1.out.below ((Below.refl _ _).alloc (Nat.le_refl _) (.cells #[.slice none 0 0, .slice none 0 0, .slice none 0 0, .string ⟨#[]⟩, .string ⟨#[]⟩, .slice none 0 0, .slice none 0 0] 29)))
  have hBD : Hid (Blk ((w.alloc (.cells #[.slice A0 n0 c0, .slice A1 n1 c1, .slice A2 n2 c2, .string d.sys, .string d.bld, .slice A5 n5 c5, .slice A6 n6 c6] 29)).alloc (.cells #[.slice none 0 0, .slice none 0 0, .slice none 0 0, .string ⟨#[]⟩, .string ⟨#[]⟩, .slice none 0 0, .slice none 0 0] 29)) w.heap.size 29 #[.slice A0 n0 c0, .slice A1 n1 c1, .slice A2 n2 c2, .string d.sys, .string d.bld, .slice A5 n5 c5, .slice A6 n6 c6]) := Blk.alloc (show Blk _ _ _ _ from hbk.out) _
  have hBR : Hid (Blk ((w.alloc (.cells #[.slice A0 n0 c0, .slice A1 n1 c1, .slice A2 n2 c2, .string d.sys, .string d.bld, .slice A5 n5 c5, .slice A6 n6 c6] 29)).alloc (.cells #[.slice none 0 0, .slice none 0 0, .slice none 0 0, .string ⟨#[]⟩, .string ⟨#[]⟩, .slice none 0 0, .slice none 0 0] 29)) (w.heap.size + 1) 29 #[.slice none 0 0, .slice none 0 0, .slice none 0 0, .string ⟨#[]⟩, .string ⟨#[]⟩, .slice none 0 0, .slice none 0 0]) := by
    have h := Blk.new (w.alloc (.cells #[.slice A0 n0 c0, .slice A1 n1 c1, .slice A2 n2 c2, .string d.sys, .string d.bld, .slice A5 n5 c5, .slice A6 n6 c6] 29)) 29 #[.slice none 0 0, .slice none 0 0, .slice none 0 0, .string ⟨#[]⟩, .string ⟨#[]⟩, .slice none 0 0, .slice none 0 0]
    rw [World.size_alloc] at h
    exact h
  obtain ⟨gd, hgd⟩ : ∃ gd, Hid (gd = w.heap.size) := ⟨_, rfl⟩
  obtain ⟨gr, hgr⟩ : ∃ gr, Hid (gr = w.heap.size + 1) := ⟨_, rfl⟩
  have hgrw := Lib.hid hgr.out
  rw [← hgr.out, ← hgd.out]
  rw [← hgd.out] at hBD
  rw [← hgr.out] at hBR
  clear hbk hb1 H1 hgd hgr
  generalize (w.alloc (.cells #[.slice A0 n0 c0, .slice A1 n1 c1, .slice A2 n2 c2, .string d.sys, .string d.bld, .slice A5 n5 c5, .slice A6 n6 c6] 29)).alloc (.cells #[.slice none 0 0, .slice none 0 0, .slice none 0 0, .string ⟨#[]⟩, .string ⟨#[]⟩, .slice none 0 0, .slice none 0 0] 29) = ws at *
  have hF : Hid (∀ W, Below ws.heap.size ws W → W.cell? ⟨gd, 0, none⟩ = some (.slice A0 n0 c0) ∧ W.cell? ⟨gd, 1, none⟩ = some (.slice A1 n1 c1) ∧ W.cell? ⟨gd, 2, none⟩ = some (.slice A2 n2 c2) ∧ W.cell? ⟨gd, 5, none⟩ = some (.slice A5 n5 c5) ∧ W.cell? ⟨gd, 6, none⟩ = some (.slice A6 n6 c6)) := fun W hb =>
    have h := hBD.out.below hb hBD.out.lt
    ⟨h.cell 0, h.cell 1, h.cell 2, h.cell 5, h.cell 6⟩
  have p3 : ws.cell? ⟨gd, 3, none⟩ = some (.string d.sys) := hBD.out.cell 3
  have p4 : ws.cell? ⟨gd, 4, none⟩ = some (.string d.bld) := hBD.out.cell 4
  go_upto_region 2 with (fail)
  obtain ⟨go, hgo⟩ : ∃ go, Hid (go = ws.heap.size) := ⟨_, rfl⟩
  have HI : Hid (OwnInv ws d go (.slice none 0 0) (.slice none 0 0) (.slice none 0 0) (.slice none 0 0) (.slice none 0 0) 0 0 0 0 0 [] [] [] [] [] (ws.alloc (.cells #[.slice none 0 0, .slice none 0 0, .slice none 0 0, .string d.sys, .string d.bld, .slice none 0 0, .slice none 0 0] 29))) := by
    rw [hgo.out]
    exact ⟨(Below.refl _ _).alloc (Nat.le_refl _) _, Nat.le_refl _, Blk.new ws 29 _, World.ownsRow_nil _ _ _ _, World.ownsRow_nil _ _ _ _, World.ownsRow_nil _ _ _ _, World.ownsRow_nil _ _ _ _, World.ownsRow_nil _ _ _ _, rfl, (fun j r hr => by simp at hr), apart_nil _, apart_nil _, apart_nil _, apart_nil _⟩
  rw [← hgo.out]
  clear p3 p4
  generalize ws.alloc (.cells #[.slice none 0 0, .slice none 0 0, .slice none 0 0, .string d.sys, .string d.bld, .slice none 0 0, .slice none 0 0] 29) = W0 at *
  obtain ⟨i49, hi0, hz0, hz1, hz2⟩ := info_parts info49'
  have Z49 := Lib.hid hz0
  have S49 := Lib.hid hz1
  have Y49 := Lib.hid hz2
  have I49 := Lib.hid hi0
  clear hi0 hz0 hz1 hz2
  obtain ⟨i9, hi0, hz0, hz1, hz2⟩ := info_parts info9'
  have Z9 := Lib.hid hz0
  have S9 := Lib.hid hz1
  have Y9 := Lib.hid hz2
  have I9 := Lib.hid hi0
  clear hi0 hz0 hz1 hz2
  obtain ⟨i61, hi0, hz0, hz1, hz2⟩ := info_parts info61'
  have Z61 := Lib.hid hz0
  have S61 := Lib.hid hz1
  have Y61 := Lib.hid hz2
  have I61 := Lib.hid hi0
  clear hi0 hz0 hz1 hz2
  obtain ⟨i70, hi0, hz0, hz1, hz2⟩ := info_parts info70'
  have Z70 := Lib.hid hz0
  have S70 := Lib.hid hz1
  have Y70 := Lib.hid hz2
  have I70 := Lib.hid hi0
  clear hi0 hz0 hz1 hz2
  have g0 : W0.cell? ⟨go, 0, none⟩ = some (.slice none 0 0) := HI.out.blk.cell 0
  have m0 := (hF.out W0 HI.out.below)
  obtain ⟨q0, q1, q2, q5, q6⟩ := m0
  have hN0 : Hid (∀ ad, A0 = some ad → ∀ j u, (outsCells d.outs)[j]? = some u → W0.cell? (ad.add j) = some u) := outs_news H2.out.outs HI.out.below
  have hL0 : Hid ((outsCells d.outs).length = n0 * 3) := by rw [Hid, outsCells_length, hn0.out]
  have hZ0 : Hid (A0 = none → n0 = 0 ∧ c0 = 0) := by rw [Hid, hn0.out]; exact H2.out.z0
  have hG0 : Hid (W0.ownsRow W0.heap.size 49 3 (.slice none 0 0) 0 []) := World.ownsRow_nil _ _ _ _
  have hgl0 := HI.out.blk.lt
  go_upto_region 3 with (first
    | (at_builtin; refine append_anyS rfl (.tmp 11) (.tmp 13) 24 rfl W0.heap.size 49 i49 _ 3 48 Tryd.underlying24 I49.out Z49.out S49.out Y49.out rfl (by omega) _ 0 [] rfl hG0.out A0 n0 c0 (outsCells d.outs) rfl hL0.out hZ0.out hN0.out (outs_one d.outs) (by unfold maxLen; omega) (by omega) (Nat.le_refl _) ?_; intro v1 w1 hown1 hb1; rw [Nat.zero_add, List.nil_append] at hown1; obtain ⟨B0, e0, rfl, hc0, hm0, hz0, HR0⟩ := row_form hown1; have HJ0 := Lib.hid (HI.out.grown hb1); have x1 := HJ0.out.blk.cell 0; have x2 : w1.frozen? ⟨go, 0, none⟩ = false := HJ0.out.blk.frozen 0; have x3 : w1.cell? ⟨go, 0, none⟩ = some (.slice none 0 0) := x1; clear hown1 hb1 x1 g0 q0 q1 q2 q5 q6)
    | fail)
  have HK0 := Lib.hid (HJ0.out.set0 (own_weaken HR0.out (by omega)) (apart_nil _))
  clear x2 x3 HJ0 HR0 HI hN0 hL0 hZ0 hG0 hgl0
  generalize w1.setCell ⟨go, 0, none⟩ (.slice B0 n0 e0) = X0 at *
  have g2 : X0.cell? ⟨go, 2, none⟩ = some (.slice none 0 0) := HK0.out.blk.cell 2
  have m2 := (hF.out X0 HK0.out.below)
  obtain ⟨q0, q1, q2, q5, q6⟩ := m2
  have hN2 : Hid (∀ ad, A2 = some ad → ∀ j u, (d.srcs.map Value.string)[j]? = some u → X0.cell? (ad.add j) = some u) := strs_news H2.out.srcs HK0.out.below
  have hL2 : Hid ((d.srcs.map Value.string).length = n2 * 1) := by rw [Hid, List.length_map, hn2.out]; omega
  have hZ2 : Hid (A2 = none → n2 = 0 ∧ c2 = 0) := by rw [Hid, hn2.out]; exact H2.out.z2
  have hG2 : Hid (X0.ownsRow X0.heap.size 9 1 (.slice none 0 0) 0 []) := World.ownsRow_nil _ _ _ _
  have hgl2 := HK0.out.blk.lt
  go_upto_region 4 with (first
    | (at_builtin; refine append_anyS rfl (.tmp 17) (.tmp 19) 26 rfl X0.heap.size 9 i9 _ 1 16 Tryd.underlying26 I9.out Z9.out S9.out Y9.out rfl (by omega) _ 0 [] rfl hG2.out A2 n2 c2 (d.srcs.map Value.string) rfl hL2.out hZ2.out hN2.out (strs_one d.srcs) (by unfold maxLen; omega) (by omega) (Nat.le_refl _) ?_; intro v1 w1 hown1 hb1; rw [Nat.zero_add, List.nil_append] at hown1; obtain ⟨B2, e2, rfl, hc2, hm2, hz2, HR2⟩ := row_form hown1; have HJ2 := Lib.hid (HK0.out.grown hb1); have x1 := HJ2.out.blk.cell 2; have x2 : w1.frozen? ⟨go, 2, none⟩ = false := HJ2.out.blk.frozen 2; have x3 : w1.cell? ⟨go, 2, none⟩ = some (.slice none 0 0) := x1; clear hown1 hb1 x1 g2 q0 q1 q2 q5 q6)
    | fail)
  have HK2 := Lib.hid (HJ2.out.set2 (own_weaken HR2.out (by omega)) (apart_nil _))
  clear x2 x3 HJ2 HR2 HK0 hN2 hL2 hZ2 hG2 hgl2
  generalize w1.setCell ⟨go, 2, none⟩ (.slice B2 n2 e2) = X2 at *
  have g5 : X2.cell? ⟨go, 5, none⟩ = some (.slice none 0 0) := HK2.out.blk.cell 5
  have m5 := (hF.out X2 HK2.out.below)
  obtain ⟨q0, q1, q2, q5, q6⟩ := m5
  have hN5 : Hid (∀ ad, A5 = some ad → ∀ j u, (d.args.map Value.string)[j]? = some u → X2.cell? (ad.add j) = some u) := strs_news H2.out.args HK2.out.below
  have hL5 : Hid ((d.args.map Value.string).length = n5 * 1) := by rw [Hid, List.length_map, hn5.out]; omega
  have hZ5 : Hid (A5 = none → n5 = 0 ∧ c5 = 0) := by rw [Hid, hn5.out]; exact H2.out.z5
  have hG5 : Hid (X2.ownsRow X2.heap.size 9 1 (.slice none 0 0) 0 []) := World.ownsRow_nil _ _ _ _
  have hgl5 := HK2.out.blk.lt
  go_upto_region 5 with (first
    | (at_builtin; refine append_anyS rfl (.tmp 23) (.tmp 25) 26 rfl X2.heap.size 9 i9 _ 1 16 Tryd.underlying26 I9.out Z9.out S9.out Y9.out rfl (by omega) _ 0 [] rfl hG5.out A5 n5 c5 (d.args.map Value.string) rfl hL5.out hZ5.out hN5.out (strs_one d.args) (by unfold maxLen; omega) (by omega) (Nat.le_refl _) ?_; intro v1 w1 hown1 hb1; rw [Nat.zero_add, List.nil_append] at hown1; obtain ⟨B5, e5, rfl, hc5, hm5, hz5, HR5⟩ := row_form hown1; have HJ5 := Lib.hid (HK2.out.grown hb1); have x1 := HJ5.out.blk.cell 5; have x2 : w1.frozen? ⟨go, 5, none⟩ = false := HJ5.out.blk.frozen 5; have x3 : w1.cell? ⟨go, 5, none⟩ = some (.slice none 0 0) := x1; clear hown1 hb1 x1 g5 q0 q1 q2 q5 q6)
    | fail)
  have HK5 := Lib.hid (HJ5.out.set5 (own_weaken HR5.out (by omega)) (apart_nil _))
  clear x2 x3 HJ5 HR5 HK2 hN5 hL5 hZ5 hG5 hgl5
  generalize w1.setCell ⟨go, 5, none⟩ (.slice B5 n5 e5) = X5 at *
  have g6 : X5.cell? ⟨go, 6, none⟩ = some (.slice none 0 0) := HK5.out.blk.cell 6
  have m6 := (hF.out X5 HK5.out.below)
  obtain ⟨q0, q1, q2, q5, q6⟩ := m6
  have hN6 : Hid (∀ ad, A6 = some ad → ∀ j u, (pairsCells d.env)[j]? = some u → X5.cell? (ad.add j) = some u) := pairs_news H2.out.env HK5.out.below
  have hL6 : Hid ((pairsCells d.env).length = n6 * 2) := by rw [Hid, pairsCells_length, hn6.out]
  have hZ6 : Hid (A6 = none → n6 = 0 ∧ c6 = 0) := by rw [Hid, hn6.out]; exact H2.out.z6
  have hG6 : Hid (X5.ownsRow X5.heap.size 70 2 (.slice none 0 0) 0 []) := World.ownsRow_nil _ _ _ _
  have hgl6 := HK5.out.blk.lt
  go_upto_region 6 with (first
    | (at_builtin; refine append_anyS rfl (.tmp 29) (.tmp 31) 27 rfl X5.heap.size 70 i70 _ 2 32 Tryd.underlying27 I70.out Z70.out S70.out Y70.out rfl (by omega) _ 0 [] rfl hG6.out A6 n6 c6 (pairsCells d.env) rfl hL6.out hZ6.out hN6.out (pairs_one d.env) (by unfold maxLen; omega) (by omega) (Nat.le_refl _) ?_; intro v1 w1 hown1 hb1; rw [Nat.zero_add, List.nil_append] at hown1; obtain ⟨B6, e6, rfl, hc6, hm6, hz6, HR6⟩ := row_form hown1; have HJ6 := Lib.hid (HK5.out.grown hb1); have x1 := HJ6.out.blk.cell 6; have x2 : w1.frozen? ⟨go, 6, none⟩ = false := HJ6.out.blk.frozen 6; have x3 : w1.cell? ⟨go, 6, none⟩ = some (.slice none 0 0) := x1; clear hown1 hb1 x1 g6 q0 q1 q2 q5 q6)
    | fail)
  have HK6 := Lib.hid (HJ6.out.set6 (own_weaken HR6.out (by omega)) (apart_nil _))
  clear x2 x3 HJ6 HR6 HK5 hN6 hL6 hZ6 hG6 hgl6
  generalize w1.setCell ⟨go, 6, none⟩ (.slice B6 n6 e6) = X6 at *
  go_upto_block 0 with (fail)
  go_cut [] (fun wx => ∃ (B1 : Option Addr) (e1 : Nat) (RI : List (ByteArray × Value)), Hid (OwnInv ws d go (.slice B0 n0 e0) (.slice B1 n1 e1) (.slice B2 n2 e2) (.slice B5 n5 e5) (.slice B6 n6 e6) n0 n1 n2 n5 n6 d.outs d.srcs d.args d.env RI wx))
  case first =>
    as_aux_lemma =>
      go_wp2_with fail
      go_loopw [4] (fun t4 wr => ∃ (k : Nat) (B1 : Option Addr) (e1 : Nat) (RI : List (ByteArray × Value)), t4 = .int .i64 k ∧ k ≤ n1 ∧ Hid (OwnInv ws d go (.slice B0 n0 e0) (.slice B1 k e1) (.slice B2 n2 e2) (.slice B5 n5 e5) (.slice B6 n6 e6) n0 k n2 n5 n6 d.outs d.srcs d.args d.env RI wr)) (fun t4 _ => n1 - (intOf t4).toNat)
      case atStart => exact ⟨0, none, 0, [], rfl, by omega, HK6⟩
      case round =>
        clear HK6
        obtain ⟨k, B1, e1, RI, rfl, hk, HI⟩ := hrel
        obtain ⟨q0, q1, q2, q5, q6⟩ := hF.out wr HI.out.below
        by_cases hlt : k < n1
        · obtain ⟨x, hx⟩ : ∃ x, Hid (d.ins[k]? = some x) := ⟨_, List.getElem?_eq_getElem (by rw [← hn1.out]; exact hlt)⟩
          obtain ⟨g, o, An, cn, eA, s1, s2, s3, s4, s5, s6⟩ := H2.out.ins k x hx.out
          dsimp only at eA
          subst eA
          obtain ⟨z, hz⟩ : ∃ z, Hid (z = x.2.length) := ⟨_, rfl⟩
          have hzb : z ≤ 1048576 := by rw [hz.out]; exact HFT.out.bi k x hx.out
          rw [← hz.out] at s2 s3 s6
          have HS5 := Lib.hid s5
          have hAn : Hid (An = none → z = 0 ∧ cn = 0) := s6
          have hgd2 : ws.cell? ⟨gd, 1, none⟩ = some (.slice (some ⟨g, o, none⟩) n1 c1) := (hF.out ws (Below.refl _ _)).2.1
          have hS : Hid (∀ W, Below ws.heap.size ws W → W.cell? ⟨gd, 1, none⟩ = some (.slice (some ⟨g, o, none⟩) n1 c1) ∧ W.cell? ⟨g, o + k * 2, none⟩ = some (.string x.1) ∧ W.cell? ⟨g, o + k * 2 + 1, none⟩ = some (.slice An z cn)) := fun W hb => ⟨(hb.cell (World.block_lt_of_cell? ws _ hgd2)).trans hgd2, (hb.cell (World.block_lt_of_cell? ws _ s1)).trans s1, (hb.cell (World.block_lt_of_cell? ws _ s2)).trans s2⟩
          have r1 := (hS.out wr HI.out.below).2.1
          have r2 := (hS.out wr HI.out.below).2.2
          have x42 : wr.cell? ⟨go, 1, none⟩ = some (.slice B1 k e1) := HI.out.blk.cell 1
          have hgl := HI.out.blk.lt
          have d1 : (k : Int) < (n1 : Int) := by omega
          have d2 : (0 : Int) ≤ (k : Int) := by omega
          clear s1 s2 s5 s6 hgd2 q0 q2 q5 q6
          unfold maxLen at s4
          have hbw0 : Hid (Below wr.heap.size wr ((wr.alloc (.cells #[] 9)).drew)) := below_drewN' ((Below.refl _ _).alloc (Nat.le_refl _) (.cells #[] 9)) 1
          have hO0 : Hid (((wr.alloc (.cells #[] 9)).drew).ownsRow wr.heap.size 9 1 (.slice (some ⟨wr.heap.size, 0, none⟩) 0 0) 0 []) := ⟨rfl, Or.inr ⟨wr.heap.size, 0, #[], rfl, Nat.le_refl _, heap_alloc_new wr _, Nat.le_refl _, Nat.zero_le _, rfl, rfl⟩⟩
          have hNW : Hid (∀ ad, An = some ad → ∀ j u, (x.2.map Value.string)[j]? = some u → ((wr.alloc (.cells #[] 9)).drew).cell? (ad.add j) = some u) := strs_news HS5.out (below_step' HI.out.below hbw0.out)
          have hNl : Hid ((x.2.map Value.string).length = z) := by rw [Hid, List.length_map, hz.out]
          have hN3 : Hid (wr.heap.size ≤ ((wr.alloc (.cells #[] 9)).drew).heap.size) := hbw0.out.size
          go_upto_region 9 with (fail)
          refine Left.region (S := OwnS go gd g o k (.slice B1 k e1) (.slice (some ⟨g, o, none⟩) n1 c1) (.slice An z cn) x.1) 20 (by kernel_rfl) ⟨x42, hS.out _ (below_drewN' HI.out.below 1)⟩ (fun hHeld => ?_)
          refine Left.take (i := 0) (u := .pointer (some ⟨go, 1, none⟩)) rfl (by kernel_rfl) (by kernel_rfl) (by kernel_rfl) (by kernel_rfl) (fun _ _ _ h => h) (by assumption) (Or.inl ⟨by rfl, fun W hSW => by obtain ⟨y42, y1, y2, y3⟩ := hSW; go_simp⟩) ?_
          simp only [Act.put, List.setIfInBounds_toArray, List.set_cons_zero, List.set_cons_succ]
          refine Left.take (i := 1) (u := .slice B1 k e1) rfl (by kernel_rfl) (by kernel_rfl) (by kernel_rfl) (by kernel_rfl) (fun _ _ _ h => h) (by assumption) (Or.inl ⟨by rfl, fun W hSW => by obtain ⟨y42, y1, y2, y3⟩ := hSW; go_simp⟩) ?_
          simp only [Act.put, List.setIfInBounds_toArray, List.set_cons_zero, List.set_cons_succ]
          refine Left.take (i := 2) (u := .pointer (some ⟨gd, 1, none⟩)) rfl (by kernel_rfl) (by kernel_rfl) (by kernel_rfl) (by kernel_rfl) (fun _ _ _ h => h) (by assumption) (Or.inl ⟨by rfl, fun W hSW => by obtain ⟨y42, y1, y2, y3⟩ := hSW; go_simp⟩) ?_
          simp only [Act.put, List.setIfInBounds_toArray, List.set_cons_zero, List.set_cons_succ]
          refine Left.take (i := 3) (u := .slice (some ⟨g, o, none⟩) n1 c1) rfl (by kernel_rfl) (by kernel_rfl) (by kernel_rfl) (by kernel_rfl) (fun _ _ _ h => h) (by assumption) (Or.inl ⟨by rfl, fun W hSW => by obtain ⟨y42, y1, y2, y3⟩ := hSW; go_simp⟩) ?_
          simp only [Act.put, List.setIfInBounds_toArray, List.set_cons_zero, List.set_cons_succ]
          refine Left.take (i := 4) (u := .int .i64 k) rfl (by kernel_rfl) (by kernel_rfl) (by kernel_rfl) (by kernel_rfl) (fun _ _ _ h => h) (by assumption) (Or.inl ⟨by rfl, fun W hSW => by obtain ⟨y42, y1, y2, y3⟩ := hSW; go_simp⟩) ?_
          simp only [Act.put, List.setIfInBounds_toArray, List.set_cons_zero, List.set_cons_succ]
          refine Left.take (i := 5) (u := .pointer (some ⟨g, o + k * 2, none⟩)) rfl (by kernel_rfl) (by kernel_rfl) (by kernel_rfl) (by kernel_rfl) (fun _ _ _ h => h) (by assumption) (Or.inl ⟨by rfl, fun W hSW => by obtain ⟨y42, y1, y2, y3⟩ := hSW; go_simp⟩) ?_
          simp only [Act.put, List.setIfInBounds_toArray, List.set_cons_zero, List.set_cons_succ]
          refine Left.take (i := 6) (u := .pointer (some ⟨g, o + k * 2, none⟩)) rfl (by kernel_rfl) (by kernel_rfl) (by kernel_rfl) (by kernel_rfl) (fun _ _ _ h => h) (by assumption) (Or.inl ⟨by rfl, fun W hSW => by obtain ⟨y42, y1, y2, y3⟩ := hSW; go_simp⟩) ?_
          simp only [Act.put, List.setIfInBounds_toArray, List.set_cons_zero, List.set_cons_succ]
          refine Left.take (i := 7) (u := .string x.1) rfl (by kernel_rfl) (by kernel_rfl) (by kernel_rfl) (by kernel_rfl) (fun _ _ _ h => h) (by assumption) (Or.inl ⟨by rfl, fun W hSW => by obtain ⟨y42, y1, y2, y3⟩ := hSW; go_simp⟩) ?_
          simp only [Act.put, List.setIfInBounds_toArray, List.set_cons_zero, List.set_cons_succ]
          refine Left.take (i := 9) (u := .pointer (some ⟨gd, 1, none⟩)) rfl (by kernel_rfl) (by kernel_rfl) (by kernel_rfl) (by kernel_rfl) (fun _ _ _ h => h) (by assumption) (Or.inl ⟨by rfl, fun W hSW => by obtain ⟨y42, y1, y2, y3⟩ := hSW; go_simp⟩) ?_
          simp only [Act.put, List.setIfInBounds_toArray, List.set_cons_zero, List.set_cons_succ]
          refine Left.take (i := 10) (u := .slice (some ⟨g, o, none⟩) n1 c1) rfl (by kernel_rfl) (by kernel_rfl) (by kernel_rfl) (by kernel_rfl) (fun _ _ _ h => h) (by assumption) (Or.inl ⟨by rfl, fun W hSW => by obtain ⟨y42, y1, y2, y3⟩ := hSW; go_simp⟩) ?_
          simp only [Act.put, List.setIfInBounds_toArray, List.set_cons_zero, List.set_cons_succ]
          refine Left.take (i := 11) (u := .int .i64 k) rfl (by kernel_rfl) (by kernel_rfl) (by kernel_rfl) (by kernel_rfl) (fun _ _ _ h => h) (by assumption) (Or.inl ⟨by rfl, fun W hSW => by obtain ⟨y42, y1, y2, y3⟩ := hSW; go_simp⟩) ?_
          simp only [Act.put, List.setIfInBounds_toArray, List.set_cons_zero, List.set_cons_succ]
          refine Left.take (i := 12) (u := .pointer (some ⟨g, o + k * 2, none⟩)) rfl (by kernel_rfl) (by kernel_rfl) (by kernel_rfl) (by kernel_rfl) (fun _ _ _ h => h) (by assumption) (Or.inl ⟨by rfl, fun W hSW => by obtain ⟨y42, y1, y2, y3⟩ := hSW; go_simp⟩) ?_
          simp only [Act.put, List.setIfInBounds_toArray, List.set_cons_zero, List.set_cons_succ]
          refine Left.take (i := 13) (u := .pointer (some ⟨g, o + k * 2 + 1, none⟩)) rfl (by kernel_rfl) (by kernel_rfl) (by kernel_rfl) (by kernel_rfl) (fun _ _ _ h => h) (by assumption) (Or.inl ⟨by rfl, fun W hSW => by obtain ⟨y42, y1, y2, y3⟩ := hSW; go_simp⟩) ?_
          simp only [Act.put, List.setIfInBounds_toArray, List.set_cons_zero, List.set_cons_succ]
          refine Left.take (i := 14) (u := .slice An z cn) rfl (by kernel_rfl) (by kernel_rfl) (by kernel_rfl) (by kernel_rfl) (fun _ _ _ h => h) (by assumption) (Or.inl ⟨by rfl, fun W hSW => by obtain ⟨y42, y1, y2, y3⟩ := hSW; go_simp⟩) ?_
          simp only [Act.put, List.setIfInBounds_toArray, List.set_cons_zero, List.set_cons_succ]
          refine Left.one (i := 8) (by kernel_rfl) rfl (fun K hK => ?_)
          go_simp
          refine hK.out _ _ (fun _ => ⟨(hbw0.out.cell hgl).trans x42, hS.out _ (HI.out.below.trans (hbw0.out.mono HI.out.below.size))⟩) (fun _ => ?_)
          clear hK K hHeld
          try simp only [Act.put, List.setIfInBounds_toArray, List.set_cons_zero, List.set_cons_succ]
          refine Left.one (i := 15) (by kernel_rfl) rfl (fun K hK => ?_)
          refine step_append_any rfl (.tmp 49) (.tmp 55) 26 rfl wr.heap.size 9 i9 _ 16 Tryd.underlying26 I9.out Z9.out S9.out Y9.out rfl _ 0 [] (by rfl) hO0.out An z cn (x.2.map Value.string) (by rfl) hNl.out hAn.out hNW.out (strs_one _) (by unfold maxLen; omega) (by omega) hN3.out ?_
          intro v1 w1 hown1 hb1
          rw [Nat.zero_add, List.nil_append] at hown1
          obtain ⟨Am, cm, rfl, hcm, hmm, hzm, HP1⟩ := row_form hown1
          have HI1 := Lib.hid (HI.out.grown (hbw0.out.trans hb1))
          have hzm' := Lib.hid hzm
          have x43 : w1.cell? ⟨go, 1, none⟩ = some (.slice B1 k e1) := HI1.out.blk.cell 1
          have hgl1 := HI1.out.blk.lt
          have hHeld1 : OwnS go gd g o k (.slice B1 k e1) (.slice (some ⟨g, o, none⟩) n1 c1) (.slice An z cn) x.1 w1 := ⟨x43, hS.out _ HI1.out.below⟩
          refine hK.out _ _ (fun _ => hHeld1) (fun _ => ?_)
          clear hK K hown1 hb1 hzm x42 r1 r2
          try simp only [Act.put, List.setIfInBounds_toArray, List.set_cons_zero, List.set_cons_succ]
          refine Left.take (i := 16) (u := .agg #[.string x.1, .slice Am z cm]) rfl (by kernel_rfl) (by kernel_rfl) (by kernel_rfl) (by kernel_rfl) (fun _ _ _ h => h) (by assumption) (Or.inl ⟨by rfl, fun W hSW => by obtain ⟨y42, y1, y2, y3⟩ := hSW; go_simp⟩) ?_
          simp only [Act.put, List.setIfInBounds_toArray, List.set_cons_zero, List.set_cons_succ]
          have hbw2 := Lib.hid ((Below.refl w1.heap.size w1).alloc (Nat.le_refl _) (.cells #[.string x.1, .slice Am z cm] 61))
          refine Left.one (i := 17) (by kernel_rfl) rfl (fun K hK => ?_)
          go_simp
          refine hK.out _ _ (fun _ => ⟨(hbw2.out.cell hgl1).trans x43, hS.out _ (HI1.out.below.trans (hbw2.out.mono HI1.out.below.size))⟩) (fun _ => ?_)
          clear hK K hHeld1
          try simp only [Act.put, List.setIfInBounds_toArray, List.set_cons_zero, List.set_cons_succ]
          refine Left.one (i := 18) (by kernel_rfl) rfl (fun K hK => ?_)
          refine step_append_lies _ (by rfl) (.tmp 42) (.tmp 58) 25 (by rfl) (go + 1) 61 i61 _ 2 40 Tryd.underlying25 I61.out Z61.out S61.out Y61.out rfl (by omega) (.slice B1 k e1) k (recCells RI) (by rfl) (HI1.out.r1.alloc _) ⟨w1.heap.size, 0, none⟩ 1 1 [.string x.1, .slice Am z cm] (by rfl) (by rfl) (World.news_of_block (cs := #[.string x.1, .slice Am z cm]) (t := 61) (fr := (0, 0)) (heap_alloc_new w1 _)) (by simp [Value.oneCell']) (by omega) (by unfold maxLen; omega) (by omega) (by simp; omega) (w1.heap.size + 1) (by simp) ?_
          intro gg cap w2 hown2 hgrow hat hltg
          have HQ := HI.out.step1 HI1.out hx.out hz.out hcm hmm hzm'.out HP1.out hown2 hgrow hat
          have HI2 := Lib.hid HQ.1
          have y1 := HQ.2.1
          have y2 := HQ.2.2
          have HBw2 : Below ws.heap.size ws w2 := HI1.out.below.trans (Below.of_grown hgrow HI1.out.below.size HI1.out.r1 (by have := HI.out.go_ge; omega))
          have hHeld2 : OwnS go gd g o k (.slice B1 k e1) (.slice (some ⟨g, o, none⟩) n1 c1) (.slice An z cn) x.1 w2 := ⟨y1, hS.out _ HBw2⟩
          refine hK.out _ _ (fun _ => hHeld2) (fun _ => ?_)
          clear hK K HQ hown2 hgrow hat hltg x43
          try simp only [Act.put, List.setIfInBounds_toArray, List.set_cons_zero, List.set_cons_succ]
          refine Left.take (i := 19) (u := .pointer (some ⟨go, 1, none⟩)) rfl (by kernel_rfl) (by kernel_rfl) (by kernel_rfl) (by kernel_rfl) (fun _ _ _ h => h) (by assumption) (Or.inl ⟨by rfl, fun W hSW => by obtain ⟨y42, y1, y2, y3⟩ := hSW; go_simp⟩) ?_
          simp only [Act.put, List.setIfInBounds_toArray, List.set_cons_zero, List.set_cons_succ]
          refine Left.one (i := 20) (by kernel_rfl) rfl (fun K hK => ?_)
          go_simp
          refine hK.out _ _ (fun h => absurd rfl h) (fun _ => ?_)
          clear hK K hHeld2
          try simp only [Act.put, List.setIfInBounds_toArray, List.set_cons_zero, List.set_cons_succ]
          refine Left.done (by kernel_rfl) ?_ _
          go_wp2_with fail
          refine ⟨⟨k + 1, some ⟨gg, 0, none⟩, cap, _, by first | rfl | simp, by omega, HI2⟩, by simp [intOf]; omega⟩
        · obtain rfl : n1 = k := by omega
          have d1 : ¬ (n1 : Int) < (n1 : Int) := by omega
          go_wp2_with fail
          go_meet
          exact ⟨B1, e1, RI, HI⟩
  case rest =>
    obtain ⟨B1, e1, RI, HI⟩ := hcut
    have hbr := Lib.hid (hBR.out.below HI.out.below hBR.out.lt)
    have hne : Hid (go ≠ gr) := fun e => by have := hBR.out.lt; have := HI.out.go_ge; omega
    have HD := Lib.hid (HI.out.drvAt hn0.out hn1.out hn2.out hn5.out hn6.out)
    have hb := Lib.hid (HI.out.below)
    have hbl := Lib.hid HI.out.blk
    have HONE : Hid ((#[.slice B0 n0 e0, .slice B1 n1 e1, .slice B2 n2 e2, .string d.sys, .string d.bld, .slice B5 n5 e5, .slice B6 n6 e6] : Array Value).all (·.oneCell') = true) := by simp [Hid, Value.oneCell']
    have HBR : Hid (Below w.heap.size w (wc.setRow gr #[.slice B0 n0 e0, .slice B1 n1 e1, .slice B2 n2 e2, .string d.sys, .string d.bld, .slice B5 n5 e5, .slice B6 n6 e6])) := below_setRow (hB2.out.trans (hb.out.mono hB2.out.size)) (by rw [hgrw.out]; omega) _
    have HDR : Hid (DrvAt (wc.setRow gr #[.slice B0 n0 e0, .slice B1 n1 e1, .slice B2 n2 e2, .string d.sys, .string d.bld, .slice B5 n5 e5, .slice B6 n6 e6]) d ⟨B0, B1, B2, B5, B6, e0, e1, e2, e5, e6⟩) := (HI.out.row (by have := hBR.out.lt; have := HI.out.go_ge; omega) _).drvAt hn0.out hn1.out hn2.out hn5.out hn6.out
    clear HI HK6
    go_upto_region 10 with (fail)
    go_wp2_with (first
      | refine wpList_load_row rfl 29 (.tmp 3) rfl go rfl 29 _ (0, 0) _ hbl.out Tryd.underlying29 rfl (by kernel_rfl) ?_
      | refine wpList_store_row rfl 29 (.tmp 2) (.tmp 61) rfl gr #[.slice B0 n0 e0, .slice B1 n1 e1, .slice B2 n2 e2, .string d.sys, .string d.bld, .slice B5 n5 e5, .slice B6 n6 e6] rfl rfl 29 _ hbr.out (by kernel_rfl) rfl HONE.out ?_)
    refine bodyPost_ret (results_cell_row rfl _ _ gr 29 _ _ _ rfl (Blk.row hbr.out _) Tryd.underlying29 rfl (by kernel_rfl)) rfl ?_
    refine ⟨⟨⟨B0, B1, B2, B5, B6, e0, e1, e2, e5, e6⟩, by rw [hdc.out], HDR.out⟩, HBR.out⟩
end Go.Proofs.YtbldognffppeiaaDoor
