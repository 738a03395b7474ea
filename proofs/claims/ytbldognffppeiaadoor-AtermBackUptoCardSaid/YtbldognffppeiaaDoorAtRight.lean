/- aterm.Right, walked. -/
import Derived.Test.YtbldognffppeiaaDoorAtKeys
import Derived.Outline
namespace Go.Proofs.YtbldognffppeiaaDoor
open Go.RowKit
set_option linter.unusedSimpArgs false
set_option linter.unusedVariables false
/-- A derivation. -/
structure Drv where
  outs : List (ByteArray × ByteArray × ByteArray)
  ins : List (ByteArray × List ByteArray)
  srcs : List ByteArray
  sys : ByteArray
  bld : ByteArray
  args : List ByteArray
  env : List (ByteArray × ByteArray)
structure DrvA where
  (A0 A1 A2 A5 A6 : Option Addr)
  (c0 c1 c2 c5 c6 : Nat)
def drvCells (d : Drv) (a : DrvA) : Array Value := #[.slice a.A0 d.outs.length a.c0, .slice a.A1 d.ins.length a.c1, .slice a.A2 d.srcs.length a.c2, .string d.sys, .string d.bld, .slice a.A5 d.args.length a.c5, .slice a.A6 d.env.length a.c6]
/-- A derivation in memory. -/
structure DrvAt (w : World) (d : Drv) (a : DrvA) : Prop where
  outs : OutsAt w a.A0 d.outs
  ins : InsAt w a.A1 d.ins
  srcs : StrsAt w a.A2 d.srcs
  args : StrsAt w a.A5 d.args
  env : PairsAt w a.A6 d.env
  l0 : d.outs.length ≤ a.c0
  l1 : d.ins.length ≤ a.c1
  l2 : d.srcs.length ≤ a.c2
  l5 : d.args.length ≤ a.c5
  l6 : d.env.length ≤ a.c6
  m0 : a.c0 ≤ maxLen
  m1 : a.c1 ≤ maxLen
  m2 : a.c2 ≤ maxLen
  m5 : a.c5 ≤ maxLen
  m6 : a.c6 ≤ maxLen
  z0 : a.A0 = none → d.outs.length = 0 ∧ a.c0 = 0
  z2 : a.A2 = none → d.srcs.length = 0 ∧ a.c2 = 0
  z5 : a.A5 = none → d.args.length = 0 ∧ a.c5 = 0
  z6 : a.A6 = none → d.env.length = 0 ∧ a.c6 = 0
theorem DrvAt.below {w w1 : World} {d : Drv} {a : DrvA} (h : DrvAt w d a) (hb : Below w.heap.size w w1) : DrvAt w1 d a :=
  { h with outs := h.outs.below hb, ins := h.ins.below hb, srcs := h.srcs.below hb, args := h.args.below hb, env := h.env.below hb }
def oddB (l : List ByteArray) : Bool := l.length == 0 || !rises l
def big0 (d : Drv) : Prop := 1024 < d.outs.length ∨ 1024 < d.ins.length ∨ 1024 < d.srcs.length ∨ 1024 < d.args.length ∨ 1024 < d.env.length
def bigIns (l : List (ByteArray × List ByteArray)) : Prop := ∃ (j : Nat) (x : ByteArray × List ByteArray), l[j]? = some x ∧ 1024 < x.2.length
def formD (d : Drv) : Bool := decide (0 < d.outs.length) && rises (d.outs.map (·.1)) && rises (d.ins.map (·.1)) && !(d.ins.any fun x => oddB x.2) && rises d.srcs && rises (d.env.map (·.1))
open Classical in
noncomputable def rightE (d : Drv) : Int := if big0 d ∨ bigIns d.ins then 3 else if formD d = true then 0 else 10
set_option maxHeartbeats 1000000 in
theorem odd_any (s : ByteArray) (An : Option Addr) (l : List ByteArray) (c : Nat) (hl : l.length ≤ maxLen) (w : World) (h : StrsAt w An l) : Calls Tryd.prog 32 #[.agg #[.string s, .slice An l.length c]] w fun e w' => e = .returned (.bool (oddB l)) ∧ Below w.heap.size w w' := by
  have H1 := Lib.hid (h.below ((Below.refl w.heap.size w).alloc (Nat.le_refl _) (.cells #[.string s, .slice An l.length c] 61)))
  have HC := Lib.hid (fun W hW => rises_strs An l c hl W hW)
  obtain ⟨n, hn⟩ : ∃ n, Hid (n = l.length) := ⟨_, rfl⟩
  have ho : Hid (oddB l = (n == 0 || !rises l)) := by rw [hn.out]; rfl
  rw [← hn.out] at HC H1 hl ⊢
  unfold maxLen at hl
  clear h
  have hb1 := Lib.hid ((Below.refl w.heap.size w).alloc (Nat.le_refl _) (.cells #[.string s, .slice An n c] 61))
  by_cases h0 : n = 0
  · subst h0
    go_enter Tryd.func32, Tryd.ntmps32
    go_wp2_with fail
    go_ret
    exact ⟨ret_bool (by rw [ho.out]; rfl), hb1.out⟩
  · have e0 : ((n : Int) == 0) = false := by simpa using h0
    go_enter Tryd.func32, Tryd.ntmps32
    go_wp2_with (first | (go_at_call 33; refine (HC.out _ H1.out).mono ?_; rintro e w1 ⟨rfl, m, rfl⟩) | fail)
    go_ret
    exact ⟨ret_bool (by rw [ho.out]; simp [h0]), below_drewN' hb1.out m⟩
theorem any_take_step {α : Type} (p : α → Bool) (l : List α) (k : Nat) (x : α) (h : l[k]? = some x) : (l.take (k + 1)).any p = ((l.take k).any p || p x) := by
  rw [List.take_add_one, h]; simp
theorem any_hit {α : Type} (p : α → Bool) (l : List α) (k : Nat) (x : α) (h : l[k]? = some x) (hp : p x = true) : l.any p = true := List.any_eq_true.2 ⟨x, List.mem_of_getElem? h, hp⟩
def IndexSays (l : List (ByteArray × List ByteArray)) (e : Ending) : Prop := ∃ n : Int, e = .returned (.int .i64 n) ∧ decide (0 ≤ n) = l.any fun x => oddB x.2
set_option maxHeartbeats 4000000 in
set_option maxRecDepth 100000 in
theorem index_ins (A : Option Addr) (l : List (ByteArray × List ByteArray)) (c : Nat) (hl : l.length ≤ maxLen) (w : World) (h : InsAt w A l) :
    Calls Tryd.prog 56 #[.slice A l.length c, .func (.func 32) #[] #[]] w fun e w' => IndexSays l e ∧ Below w.heap.size w w' := by
  have HF := Lib.hid h
  have hb0 := Lib.hid (Below.refl w.heap.size w)
  obtain ⟨len, hlen⟩ : ∃ len, Hid (len = l.length) := ⟨_, rfl⟩
  rw [← hlen.out] at hl ⊢
  unfold maxLen at hl
  clear h
  go_enter Tryd.func56, Tryd.ntmps56
  go_wp2_with fail
  go_loopw [8] (fun t8 wr => ∃ k : Nat, t8 = .int .i64 k ∧ k ≤ len ∧ Hid ((l.take k).any (fun x => oddB x.2) = false) ∧ Hid (Below w.heap.size w wr)) (fun t8 _ => len - (intOf t8).toNat)
  case atStart => exact ⟨0, rfl, by omega, rfl, hb0⟩
  case round =>
    clear hb0
    obtain ⟨k, rfl, hk, ha, hb⟩ := hrel
    by_cases hlt : k < len
    · obtain ⟨x, hx⟩ : ∃ x, Hid (l[k]? = some x) := ⟨_, List.getElem?_eq_getElem (by have := hlen.out; omega)⟩
      obtain ⟨g, o, An, cn, rfl, q2, q3, q4, q5, q6⟩ := HF.out k x hx.out
      have n1 : wr.cell? ⟨g, o + k * 2, none⟩ = some (.string x.1) := (hb.out.cell (World.block_lt_of_cell? w _ q2)).trans q2
      have n2 : wr.cell? ⟨g, o + k * 2 + 1, none⟩ = some (.slice An x.2.length cn) := (hb.out.cell (World.block_lt_of_cell? w _ q3)).trans q3
      have HC := Lib.hid (odd_any x.1 An x.2 cn (Nat.le_trans q4 q5) wr (q6.1.below hb.out))
      have c1 : (k : Int) < (len : Int) := by omega
      have c2 : (0 : Int) ≤ (k : Int) := by omega
      clear q2 q3 q6
      cases hd : oddB x.2
      · rw [hd] at HC
        go_wp2_with (go_at_call 32; refine HC.out.mono ?_; rintro e w2 ⟨rfl, hb2⟩; have HB2 := Lib.hid hb2; clear hb2)
        refine ⟨⟨k + 1, by first | rfl | simp, by omega, by rw [any_take_step _ l k x hx.out, ha.out, hd]; rfl, below_step' hb.out HB2.out⟩, by simp [intOf]; omega⟩
      · rw [hd] at HC
        go_wp2_with (go_at_call 32; refine HC.out.mono ?_; rintro e w2 ⟨rfl, hb2⟩; have HB2 := Lib.hid hb2; clear hb2)
        go_ret
        refine ⟨⟨(k : Int), rfl, ?_⟩, below_step' hb.out HB2.out⟩
        rw [any_hit (fun x => oddB x.2) l k x hx.out hd]
        simp
    · have c1 : ¬ (k : Int) < (len : Int) := by omega
      go_wp2_with fail
      go_ret
      refine ⟨⟨-1, rfl, ?_⟩, hb.out⟩
      have h := ha.out
      rw [List.take_of_length_le (by have := hlen.out; omega)] at h
      rw [h]
      rfl
theorem contains_ins (A : Option Addr) (l : List (ByteArray × List ByteArray)) (c : Nat) (hl : l.length ≤ maxLen) (w : World) (h : InsAt w A l) :
    Calls Tryd.prog 39 #[.slice A l.length c, .func (.func 32) #[] #[]] w fun e w' => e = .returned (.bool (l.any fun x => oddB x.2)) ∧ Below w.heap.size w w' := by
  have HF := Lib.hid h
  clear h
  go_enter Tryd.func39, Tryd.ntmps39
  go_wp2_with (go_at_call 56; refine (index_ins A l c hl _ HF.out).mono ?_; rintro e w1 ⟨⟨n, rfl, hn1⟩, hb⟩; have HB := Lib.hid hb; have HN1 := Lib.hid hn1; clear hb hn1)
  go_ret
  exact ⟨ret_bool HN1.out, HB.out⟩
theorem run_max2 {P : Program} (x y : Nat) (w : World) : (Builtin.max2 (.int .i64 (x : Int)) (.int .i64 (y : Int))).run P w = .ok (.int .i64 ((if x < y then y else x : Nat) : Int)) w := by
  by_cases h : x < y
  · simp [Builtin.max2, go_sem, h]
  · simp [Builtin.max2, go_sem, h]
def mx (a b : Nat) : Nat := if a < b then b else a
theorem run_max5 {P : Program} (ts : Array TypeId) (t : TypeId) (a b c d e : Nat) (w : World) : (Builtin.max_ ts t #[.int .i64 (a : Int), .int .i64 (b : Int), .int .i64 (c : Int), .int .i64 (d : Int), .int .i64 (e : Int)]).run P w = .ok (.int .i64 ((mx (mx (mx (mx a b) c) d) e : Nat) : Int)) w := by
  unfold Builtin.max_
  simp only [List.foldlM_cons, List.foldlM_nil, Sem.run_bind, run_max2, Result.andThen, Sem.run_pure]
  rfl
set_option maxHeartbeats 4000000 in
set_option maxRecDepth 100000 in
theorem right_any (d : Drv) (a : DrvA) (w : World) (h : DrvAt w d a) : Calls Tryd.prog 12 #[.agg (drvCells d a)] w fun e w' => e = .returned (.int .i64 (rightE d)) ∧ Below w.heap.size w w' := by
  have hb1 := Lib.hid ((Below.refl w.heap.size w).alloc (Nat.le_refl _) (.cells (drvCells d a) 29))
  have H1 := Lib.hid (h.below hb1.out)
  have hbk : Hid ((w.alloc (.cells (drvCells d a) 29)).heap[w.heap.size]? = some (.cells (drvCells d a) 29 (0, 0))) := heap_alloc_new w _
  obtain ⟨n0, hn0⟩ : ∃ n, Hid (n = d.outs.length) := ⟨_, rfl⟩
  obtain ⟨n1, hn1⟩ : ∃ n, Hid (n = d.ins.length) := ⟨_, rfl⟩
  obtain ⟨n2, hn2⟩ : ∃ n, Hid (n = d.srcs.length) := ⟨_, rfl⟩
  obtain ⟨n5, hn5⟩ : ∃ n, Hid (n = d.args.length) := ⟨_, rfl⟩
  obtain ⟨n6, hn6⟩ : ∃ n, Hid (n = d.env.length) := ⟨_, rfl⟩
  have b0 : n0 ≤ 9223372036854775807 := by have := h.l0; have := h.m0; unfold maxLen at this; have := hn0.out; omega
  have b1 : n1 ≤ 9223372036854775807 := by have := h.l1; have := h.m1; unfold maxLen at this; have := hn1.out; omega
  have b2 : n2 ≤ 9223372036854775807 := by have := h.l2; have := h.m2; unfold maxLen at this; have := hn2.out; omega
  have b5 : n5 ≤ 9223372036854775807 := by have := h.l5; have := h.m5; unfold maxLen at this; have := hn5.out; omega
  have b6 : n6 ≤ 9223372036854775807 := by have := h.l6; have := h.m6; unfold maxLen at this; have := hn6.out; omega
  clear h
  unfold drvCells at hb1 hbk H1 ⊢
  rw [← hn0.out, ← hn1.out, ← hn2.out, ← hn5.out, ← hn6.out] at hb1 hbk H1 ⊢
  obtain ⟨A0, A1, A2, A5, A6, c0, c1, c2, c5, c6⟩ := a
  dsimp only at hb1 hbk H1 ⊢
  go_enter Tryd.func12, Tryd.ntmps12
  go_upto_region 1 with (fail)
  obtain ⟨gd, hgd⟩ : ∃ gd, Hid (gd = w.heap.size) := ⟨_, rfl⟩
  have hBK : Hid (Blk (w.alloc (.cells #[.slice A0 n0 c0, .slice A1 n1 c1, .slice A2 n2 c2, .string d.sys, .string d.bld, .slice A5 n5 c5, .slice A6 n6 c6] 29)) gd 29 #[.slice A0 n0 c0, .slice A1 n1 c1, .slice A2 n2 c2, .string d.sys, .string d.bld, .slice A5 n5 c5, .slice A6 n6 c6]) := by rw [hgd.out]; exact hbk.out
  rw [← hgd.out]
  clear hbk
  generalize w.alloc (.cells #[.slice A0 n0 c0, .slice A1 n1 c1, .slice A2 n2 c2, .string d.sys, .string d.bld, .slice A5 n5 c5, .slice A6 n6 c6] 29) = wb at *
  have f0 : wb.cell? ⟨gd, 0, none⟩ = some (.slice A0 n0 c0) := hBK.out.cell 0
  have f1 : wb.cell? ⟨gd, 1, none⟩ = some (.slice A1 n1 c1) := hBK.out.cell 1
  have f2 : wb.cell? ⟨gd, 2, none⟩ = some (.slice A2 n2 c2) := hBK.out.cell 2
  have f5 : wb.cell? ⟨gd, 5, none⟩ = some (.slice A5 n5 c5) := hBK.out.cell 5
  have f6 : wb.cell? ⟨gd, 6, none⟩ = some (.slice A6 n6 c6) := hBK.out.cell 6
  go_cut [3] (fun t3 wx => wx = wb ∧ ∃ M : Nat, t3 = .int .i64 M ∧ M ≤ 9223372036854775807 ∧ Hid (1024 < M ↔ big0 d))
  case first =>
    have hmx := run_max5 (P := Tryd.prog) #[3, 3, 3, 3, 3] 3 n0 n1 n2 n5 n6 wb
    have hM1 : mx (mx (mx (mx n0 n1) n2) n5) n6 ≤ 9223372036854775807 := by unfold mx; split <;> split <;> split <;> split <;> omega
    have hM2 : Hid (1024 < mx (mx (mx (mx n0 n1) n2) n5) n6 ↔ big0 d) := by
      unfold big0
      rw [Hid, ← hn0.out, ← hn1.out, ← hn2.out, ← hn5.out, ← hn6.out]
      unfold mx
      split <;> split <;> split <;> split <;> omega
    generalize mx (mx (mx (mx n0 n1) n2) n5) n6 = M at *
    go_wp2_with fail
    go_meet
    exact ⟨rfl, M, rfl, hM1, hM2⟩
  case rest =>
    obtain ⟨rfl, M, rfl, hM1, hM2⟩ := hcut
    have hF : Hid (∀ W, Below wc.heap.size wc W → W.cell? ⟨gd, 0, none⟩ = some (.slice A0 n0 c0) ∧ W.cell? ⟨gd, 1, none⟩ = some (.slice A1 n1 c1) ∧ W.cell? ⟨gd, 2, none⟩ = some (.slice A2 n2 c2) ∧ W.cell? ⟨gd, 6, none⟩ = some (.slice A6 n6 c6)) := fun W hb =>
      ⟨(hb.cell (World.block_lt_of_cell? wc _ f0)).trans f0, (hb.cell (World.block_lt_of_cell? wc _ f1)).trans f1, (hb.cell (World.block_lt_of_cell? wc _ f2)).trans f2, (hb.cell (World.block_lt_of_cell? wc _ f6)).trans f6⟩
    have hrf := Lib.hid (Below.refl wc.heap.size wc)
    go_upto_region 2 with (fail)
    go_wp2_with fail
    clear f0 f2 f5 f6
    go_loopw [3, 27] (fun t3 t27 wr => ∃ k M : Nat, t27 = .int .i64 k ∧ t3 = .int .i64 M ∧ k ≤ n1 ∧ M ≤ 9223372036854775807 ∧ Hid (1024 < M ↔ big0 d ∨ bigIns (d.ins.take k)) ∧ Hid (Below wc.heap.size wc wr)) (fun _ t27 _ => n1 - (intOf t27).toNat)
    case atStart => exact ⟨0, M, rfl, rfl, by omega, hM1, by rw [Hid, hM2.out]; simp [bigIns], hrf⟩
    case round =>
      clear hM1 hM2 M hrf f1
      obtain ⟨k, M, rfl, rfl, hk, hM1, hM2, HB⟩ := hrel
      by_cases hlt : k < n1
      · obtain ⟨x, hx⟩ : ∃ x, Hid (d.ins[k]? = some x) := ⟨_, List.getElem?_eq_getElem (by rw [← hn1.out]; exact hlt)⟩
        obtain ⟨g, o, An, cn, e1, q1, q2, q3, q4, _⟩ := H1.out.ins k x hx.out
        dsimp only at e1
        subst e1
        have r1 := (HB.out.cell (World.block_lt_of_cell? wc _ q1)).trans q1
        have r2 := (HB.out.cell (World.block_lt_of_cell? wc _ q2)).trans q2
        obtain ⟨z, hz⟩ : ∃ z, Hid (z = x.2.length) := ⟨_, rfl⟩
        rw [← hz.out] at r2 q3
        unfold maxLen at q4
        have d1 : (k : Int) < (n1 : Int) := by omega
        have d2 : (0 : Int) ≤ (k : Int) := by omega
        have hstep : Hid (1024 < mx M z ↔ big0 d ∨ bigIns (d.ins.take (k + 1))) := by
          have h1 : bigIns (d.ins.take (k + 1)) ↔ bigIns (d.ins.take k) ∨ 1024 < z := by
            rw [hz.out]
            constructor
            · rintro ⟨j, y, hj, hy⟩
              rw [List.getElem?_take] at hj
              split at hj
              · by_cases hjk : j < k
                · exact .inl ⟨j, y, by rw [List.getElem?_take, if_pos hjk]; exact hj, hy⟩
                · obtain rfl : j = k := by omega
                  rw [hx.out] at hj
                  injection hj with hj
                  subst hj
                  exact .inr hy
              · cases hj
            · rintro (⟨j, y, hj, hy⟩ | hy)
              · rw [List.getElem?_take] at hj
                split at hj
                · exact ⟨j, y, by rw [List.getElem?_take, if_pos (by omega)]; exact hj, hy⟩
                · cases hj
              · exact ⟨k, x, by rw [List.getElem?_take, if_pos (by omega)]; exact hx.out, hy⟩
          rw [Hid, h1]
          have h2 := hM2.out
          have h3 : 1024 < mx M z ↔ 1024 < M ∨ 1024 < z := by unfold mx; split <;> omega
          rw [h3, h2]
          constructor
          · rintro ((h | h) | h)
            · exact .inl h
            · exact .inr (.inl h)
            · exact .inr (.inr h)
          · rintro (h | h | h)
            · exact .inl (.inl h)
            · exact .inl (.inr h)
            · exact .inr h
        have hmx : max (M : Int) (z : Int) = ((mx M z : Nat) : Int) := by unfold mx; split <;> omega
        have hm3 : mx M z ≤ 9223372036854775807 := by unfold mx; split <;> omega
        have HBn : Hid (Below wc.heap.size wc (wr.alloc (.cells #[.string x.1, .slice An z cn] 61))) := HB.out.alloc HB.out.size _
        clear q1 q2 hM2 HB
        generalize mx M z = M2 at *
        go_wp2_with fail
        refine ⟨⟨k + 1, M2, by first | rfl | simp, by first | rfl | exact congrArg (Value.int .i64) hmx, by omega, hm3, hstep, HBn⟩, by simp [intOf]; omega⟩
      · obtain rfl : k = n1 := by omega
        have hall : Hid (1024 < M ↔ big0 d ∨ bigIns d.ins) := by
          have h := hM2.out
          rwa [List.take_of_length_le (by rw [← hn1.out]; exact Nat.le_refl _)] at h
        have d1 : ¬ (k : Int) < (k : Int) := by omega
        have HBW : Hid (∀ W, Below wc.heap.size wc W → Below w.heap.size w W) := fun W hb => below_step' hb1.out hb
        obtain ⟨f0, f1, f2, f6⟩ := hF.out wr HB.out
        by_cases hM : 1024 < M
        · have d2 : (1024 : Int) < (M : Int) := by omega
          have hr : Hid (rightE d = 3) := if_pos (hall.out.1 hM)
          go_wp2_with fail
          go_ret
          exact ⟨by rw [hr.out]; rfl, HBW.out _ HB.out⟩
        · have d2 : ¬ (1024 : Int) < (M : Int) := by omega
          have hr : Hid (rightE d = if formD d = true then 0 else 10) := if_neg (fun h => hM (hall.out.2 h))
          clear hall hM2 hM
          have HBr := HB.out
          have C35 := Lib.hid (fun W (hb : Below wc.heap.size wc W) => rises_outs A0 d.outs c0 (Nat.le_trans H1.out.l0 H1.out.m0) W (H1.out.outs.below hb))
          have C37 := Lib.hid (fun W (hb : Below wc.heap.size wc W) => rises_ins A1 d.ins c1 (Nat.le_trans H1.out.l1 H1.out.m1) W (H1.out.ins.below hb))
          have C39 := Lib.hid (fun W (hb : Below wc.heap.size wc W) => contains_ins A1 d.ins c1 (Nat.le_trans H1.out.l1 H1.out.m1) W (H1.out.ins.below hb))
          have C33 := Lib.hid (fun W (hb : Below wc.heap.size wc W) => rises_strs A2 d.srcs c2 (Nat.le_trans H1.out.l2 H1.out.m2) W (H1.out.srcs.below hb))
          have C40 := Lib.hid (fun W (hb : Below wc.heap.size wc W) => rises_pairs A6 d.env c6 (Nat.le_trans H1.out.l6 H1.out.m6) W (H1.out.env.below hb))
          rw [← hn0.out] at C35
          rw [← hn1.out] at C37 C39
          rw [← hn2.out] at C33
          rw [← hn6.out] at C40
          have hfd : Hid (formD d = (decide (0 < n0) && rises (d.outs.map (·.1)) && rises (d.ins.map (·.1)) && !(d.ins.any fun x => oddB x.2) && rises d.srcs && rises (d.env.map (·.1)))) := by rw [Hid, hn0.out]; rfl
          generalize rises (d.outs.map (·.1)) = b1 at *
          generalize rises (d.ins.map (·.1)) = b2 at *
          generalize (d.ins.any fun x => oddB x.2) = b3 at *
          generalize rises d.srcs = b4 at *
          generalize rises (d.env.map (·.1)) = b5 at *
          clear HB H1 hn1
          by_cases h0 : 0 < n0
          · have d3 : (0 : Int) < (n0 : Int) := by omega
            cases b1
            · as_aux_lemma =>
                go_wp2_with (first | (go_at_call 35; refine (C35.out _ (by assumption)).mono ?_; rintro e w1 ⟨rfl, hb⟩; have HBx := below_step' (by assumption) hb; clear hb; obtain ⟨f0, f1, f2, f6⟩ := hF.out _ HBx) | (go_at_call 37; refine (C37.out _ (by assumption)).mono ?_; rintro e w1 ⟨rfl, hb⟩; have HBx := below_step' (by assumption) hb; clear hb; obtain ⟨f0, f1, f2, f6⟩ := hF.out _ HBx) | (go_at_call 39; refine (C39.out _ (by assumption)).mono ?_; rintro e w1 ⟨rfl, hb⟩; have HBx := below_step' (by assumption) hb; clear hb; obtain ⟨f0, f1, f2, f6⟩ := hF.out _ HBx) | (go_at_call 33; refine (C33.out _ (by assumption)).mono ?_; rintro e w1 ⟨rfl, m1, rfl⟩; have HBx := below_drewN' (n := m1) (by assumption); obtain ⟨f0, f1, f2, f6⟩ := hF.out _ HBx) | (go_at_call 40; refine (C40.out _ (by assumption)).mono ?_; rintro e w1 ⟨rfl, hb⟩; have HBx := below_step' (by assumption) hb; clear hb; obtain ⟨f0, f1, f2, f6⟩ := hF.out _ HBx) | fail)
                go_ret
                exact ⟨by rw [hr.out, hfd.out]; (first | rfl | (simp; done) | (simp; omega) | (simp [h0]; done)), HBW.out _ (by assumption)⟩
            · skip
              cases b2
              · as_aux_lemma =>
                  go_wp2_with (first | (go_at_call 35; refine (C35.out _ (by assumption)).mono ?_; rintro e w1 ⟨rfl, hb⟩; have HBx := below_step' (by assumption) hb; clear hb; obtain ⟨f0, f1, f2, f6⟩ := hF.out _ HBx) | (go_at_call 37; refine (C37.out _ (by assumption)).mono ?_; rintro e w1 ⟨rfl, hb⟩; have HBx := below_step' (by assumption) hb; clear hb; obtain ⟨f0, f1, f2, f6⟩ := hF.out _ HBx) | (go_at_call 39; refine (C39.out _ (by assumption)).mono ?_; rintro e w1 ⟨rfl, hb⟩; have HBx := below_step' (by assumption) hb; clear hb; obtain ⟨f0, f1, f2, f6⟩ := hF.out _ HBx) | (go_at_call 33; refine (C33.out _ (by assumption)).mono ?_; rintro e w1 ⟨rfl, m1, rfl⟩; have HBx := below_drewN' (n := m1) (by assumption); obtain ⟨f0, f1, f2, f6⟩ := hF.out _ HBx) | (go_at_call 40; refine (C40.out _ (by assumption)).mono ?_; rintro e w1 ⟨rfl, hb⟩; have HBx := below_step' (by assumption) hb; clear hb; obtain ⟨f0, f1, f2, f6⟩ := hF.out _ HBx) | fail)
                  go_ret
                  exact ⟨by rw [hr.out, hfd.out]; (first | rfl | (simp; done) | (simp; omega) | (simp [h0]; done)), HBW.out _ (by assumption)⟩
              · skip
                cases b3
                rotate_left
                · as_aux_lemma =>
                    go_wp2_with (first | (go_at_call 35; refine (C35.out _ (by assumption)).mono ?_; rintro e w1 ⟨rfl, hb⟩; have HBx := below_step' (by assumption) hb; clear hb; obtain ⟨f0, f1, f2, f6⟩ := hF.out _ HBx) | (go_at_call 37; refine (C37.out _ (by assumption)).mono ?_; rintro e w1 ⟨rfl, hb⟩; have HBx := below_step' (by assumption) hb; clear hb; obtain ⟨f0, f1, f2, f6⟩ := hF.out _ HBx) | (go_at_call 39; refine (C39.out _ (by assumption)).mono ?_; rintro e w1 ⟨rfl, hb⟩; have HBx := below_step' (by assumption) hb; clear hb; obtain ⟨f0, f1, f2, f6⟩ := hF.out _ HBx) | (go_at_call 33; refine (C33.out _ (by assumption)).mono ?_; rintro e w1 ⟨rfl, m1, rfl⟩; have HBx := below_drewN' (n := m1) (by assumption); obtain ⟨f0, f1, f2, f6⟩ := hF.out _ HBx) | (go_at_call 40; refine (C40.out _ (by assumption)).mono ?_; rintro e w1 ⟨rfl, hb⟩; have HBx := below_step' (by assumption) hb; clear hb; obtain ⟨f0, f1, f2, f6⟩ := hF.out _ HBx) | fail)
                    go_ret
                    exact ⟨by rw [hr.out, hfd.out]; (first | rfl | (simp; done) | (simp; omega) | (simp [h0]; done)), HBW.out _ (by assumption)⟩
                · skip
                  cases b4
                  · as_aux_lemma =>
                      go_wp2_with (first | (go_at_call 35; refine (C35.out _ (by assumption)).mono ?_; rintro e w1 ⟨rfl, hb⟩; have HBx := below_step' (by assumption) hb; clear hb; obtain ⟨f0, f1, f2, f6⟩ := hF.out _ HBx) | (go_at_call 37; refine (C37.out _ (by assumption)).mono ?_; rintro e w1 ⟨rfl, hb⟩; have HBx := below_step' (by assumption) hb; clear hb; obtain ⟨f0, f1, f2, f6⟩ := hF.out _ HBx) | (go_at_call 39; refine (C39.out _ (by assumption)).mono ?_; rintro e w1 ⟨rfl, hb⟩; have HBx := below_step' (by assumption) hb; clear hb; obtain ⟨f0, f1, f2, f6⟩ := hF.out _ HBx) | (go_at_call 33; refine (C33.out _ (by assumption)).mono ?_; rintro e w1 ⟨rfl, m1, rfl⟩; have HBx := below_drewN' (n := m1) (by assumption); obtain ⟨f0, f1, f2, f6⟩ := hF.out _ HBx) | (go_at_call 40; refine (C40.out _ (by assumption)).mono ?_; rintro e w1 ⟨rfl, hb⟩; have HBx := below_step' (by assumption) hb; clear hb; obtain ⟨f0, f1, f2, f6⟩ := hF.out _ HBx) | fail)
                      go_ret
                      exact ⟨by rw [hr.out, hfd.out]; (first | rfl | (simp; done) | (simp; omega) | (simp [h0]; done)), HBW.out _ (by assumption)⟩
                  · skip
                    cases b5
                    · as_aux_lemma =>
                        go_wp2_with (first | (go_at_call 35; refine (C35.out _ (by assumption)).mono ?_; rintro e w1 ⟨rfl, hb⟩; have HBx := below_step' (by assumption) hb; clear hb; obtain ⟨f0, f1, f2, f6⟩ := hF.out _ HBx) | (go_at_call 37; refine (C37.out _ (by assumption)).mono ?_; rintro e w1 ⟨rfl, hb⟩; have HBx := below_step' (by assumption) hb; clear hb; obtain ⟨f0, f1, f2, f6⟩ := hF.out _ HBx) | (go_at_call 39; refine (C39.out _ (by assumption)).mono ?_; rintro e w1 ⟨rfl, hb⟩; have HBx := below_step' (by assumption) hb; clear hb; obtain ⟨f0, f1, f2, f6⟩ := hF.out _ HBx) | (go_at_call 33; refine (C33.out _ (by assumption)).mono ?_; rintro e w1 ⟨rfl, m1, rfl⟩; have HBx := below_drewN' (n := m1) (by assumption); obtain ⟨f0, f1, f2, f6⟩ := hF.out _ HBx) | (go_at_call 40; refine (C40.out _ (by assumption)).mono ?_; rintro e w1 ⟨rfl, hb⟩; have HBx := below_step' (by assumption) hb; clear hb; obtain ⟨f0, f1, f2, f6⟩ := hF.out _ HBx) | fail)
                        go_ret
                        exact ⟨by rw [hr.out, hfd.out]; (first | rfl | (simp; done) | (simp; omega) | (simp [h0]; done)), HBW.out _ (by assumption)⟩
                    · skip
                      as_aux_lemma =>
                        go_wp2_with (first | (go_at_call 35; refine (C35.out _ (by assumption)).mono ?_; rintro e w1 ⟨rfl, hb⟩; have HBx := below_step' (by assumption) hb; clear hb; obtain ⟨f0, f1, f2, f6⟩ := hF.out _ HBx) | (go_at_call 37; refine (C37.out _ (by assumption)).mono ?_; rintro e w1 ⟨rfl, hb⟩; have HBx := below_step' (by assumption) hb; clear hb; obtain ⟨f0, f1, f2, f6⟩ := hF.out _ HBx) | (go_at_call 39; refine (C39.out _ (by assumption)).mono ?_; rintro e w1 ⟨rfl, hb⟩; have HBx := below_step' (by assumption) hb; clear hb; obtain ⟨f0, f1, f2, f6⟩ := hF.out _ HBx) | (go_at_call 33; refine (C33.out _ (by assumption)).mono ?_; rintro e w1 ⟨rfl, m1, rfl⟩; have HBx := below_drewN' (n := m1) (by assumption); obtain ⟨f0, f1, f2, f6⟩ := hF.out _ HBx) | (go_at_call 40; refine (C40.out _ (by assumption)).mono ?_; rintro e w1 ⟨rfl, hb⟩; have HBx := below_step' (by assumption) hb; clear hb; obtain ⟨f0, f1, f2, f6⟩ := hF.out _ HBx) | fail)
                        go_ret
                        exact ⟨by rw [hr.out, hfd.out]; (first | rfl | (simp; done) | (simp; omega) | (simp [h0]; done)), HBW.out _ (by assumption)⟩
          · have d3 : ¬ (0 : Int) < (n0 : Int) := by omega
            go_wp2_with (first | (go_at_call 35; refine (C35.out _ (by assumption)).mono ?_; rintro e w1 ⟨rfl, hb⟩; have HBx := below_step' (by assumption) hb; clear hb; obtain ⟨f0, f1, f2, f6⟩ := hF.out _ HBx) | (go_at_call 37; refine (C37.out _ (by assumption)).mono ?_; rintro e w1 ⟨rfl, hb⟩; have HBx := below_step' (by assumption) hb; clear hb; obtain ⟨f0, f1, f2, f6⟩ := hF.out _ HBx) | (go_at_call 39; refine (C39.out _ (by assumption)).mono ?_; rintro e w1 ⟨rfl, hb⟩; have HBx := below_step' (by assumption) hb; clear hb; obtain ⟨f0, f1, f2, f6⟩ := hF.out _ HBx) | (go_at_call 33; refine (C33.out _ (by assumption)).mono ?_; rintro e w1 ⟨rfl, m1, rfl⟩; have HBx := below_drewN' (n := m1) (by assumption); obtain ⟨f0, f1, f2, f6⟩ := hF.out _ HBx) | (go_at_call 40; refine (C40.out _ (by assumption)).mono ?_; rintro e w1 ⟨rfl, hb⟩; have HBx := below_step' (by assumption) hb; clear hb; obtain ⟨f0, f1, f2, f6⟩ := hF.out _ HBx) | fail)
            go_ret
            exact ⟨by rw [hr.out, hfd.out]; (first | rfl | (simp; done) | (simp; omega) | (simp [h0]; done)), HBW.out _ (by assumption)⟩
end Go.Proofs.YtbldognffppeiaaDoor
