/- The reference's Right, walked. Printed by wip/gen/gen_refright.py. -/
import Derived.Test.YtbldognffppeiaaDoorAtRight
import Derived.Laws.AppendOwnNone
import Derived.Laws.OwnMore
import Derived.Maps.AppendAt
namespace Go.Proofs.YtbldognffppeiaaDoor
open Go.RowKit
set_option linter.unusedSimpArgs false
set_option linter.unusedVariables false
theorem info9' : (Tryd.prog.info? 9).map (fun i => (i.zero, i.size, i.bytes)) = some (some (.string ⟨#[]⟩), 1, 16) := by kernel_rfl
/-- An append of whatever, nil let in, to what is owned. -/
theorem append_any {P : Program} {w : World} {ops : Array Oper} {rest : List Oper} {o : Oper} {a : Act} {Q : Exit → Act → World → Prop} (hgd : o.guard = none) (s x : Operand) (t : TypeId)
    (ho : o.op = .call { callee := .builtin .append, args := #[s, x], argTypes := #[t, t] })
    (base : Nat) (e : TypeId) (i : TypeInfo) (z : Value) (bytes : Nat) (ht : P.underlying t = some (.slice e)) (hi : P.info? e = some i) (hz : i.zero = some z)
    (hsize : i.size = 1) (hby : i.bytes = bytes) (hzs : z.cells.size = 1)
    (v : Value) (n : Nat) (xs : List Value) (hs : a.eval s = v) (hown : w.ownsRow base e 1 v n xs)
    (A : Option Addr) (m c : Nat) (news : List Value) (hx : a.eval x = .slice A m c) (hl : news.length = m) (hnone : A = none → m = 0 ∧ c = 0) (hnews : ∀ ad, A = some ad → ∀ j u, news[j]? = some u → w.cell? (ad.add j) = some u) (h1 : ∀ u ∈ news, u.oneCell' = true)
    (h63 : n + m ≤ maxLen) (hbytes : (n + m) * bytes ≤ 140737488355328) (hbase : base ≤ w.heap.size)
    (h : ∀ v' w', w'.ownsRow base e 1 v' (n + m) (xs ++ news) → Below base w w' → wpList P ops Q rest (a.put o.dst v') w') : wpList P ops Q (o :: rest) a w := by
  cases A with
  | none =>
    obtain ⟨rfl, rfl⟩ := hnone rfl
    obtain rfl : news = [] := List.eq_nil_of_length_eq_zero hl
    refine wpList_append_own_none hgd s x t ho base e i 1 ht hi v n xs hs hown hx ?_
    exact h v w (by simpa using hown) (Below.refl _ _)
  | some ad =>
    refine wpList_append_own _ hgd s x t ho base e i z 1 bytes ht hi hz hsize hby hzs (by decide) v n xs hs hown ad m c news hx (by omega) (hnews ad rfl) h1 h63 hbytes hbase ?_
    intro v' w' h2 h3 _
    exact h v' w' h2 ((Below.refl _ w).grown h3 hbase (fun k hk => (hown.lt k hk).1))
/-- An own row of texts is a list of texts. -/
theorem owned_strs {w : World} {b : Nat} {v : Value} {n : Nat} {l : List ByteArray} (hn : n = l.length) (h : w.ownsRow b 9 1 v n (l.map Value.string)) : ∃ A c, v = .slice A n c ∧ n ≤ c ∧ c ≤ maxLen ∧ StrsAt w A l := by
  obtain ⟨hl, ⟨rfl, h0⟩ | ⟨g, cap, cur, rfl, hg, hb, hc, hm, hsz, ht⟩⟩ := h
  · obtain rfl : l = [] := List.eq_nil_of_length_eq_zero (by omega)
    subst h0
    exact ⟨none, 0, rfl, Nat.le_refl _, Nat.zero_le _, fun j s hj => by simp at hj⟩
  · refine ⟨some ⟨g, 0, none⟩, cap, rfl, hc, hm, fun j s hj => ⟨g, 0, rfl, ?_⟩⟩
    have e : (l.map Value.string)[j]? = some (.string s) := by rw [List.getElem?_map, hj]; rfl
    rw [← ht, List.getElem?_take] at e
    split at e
    · rw [Nat.zero_add, cell_of_row w g j cur 9 (0, 0) hb]
      simpa using e
    · cases e
theorem strs_step {w : World} {b : Nat} {v : Value} {l : List ByteArray} {k : Nat} {s : ByteArray} (hs : l[k]? = some s) (h : w.ownsRow b 9 1 v (k + 1) ((l.take k).map Value.string ++ [.string s])) : ∃ A c, v = .slice A (k + 1) c ∧ Hid (w.ownsRow b 9 1 (.slice A (k + 1) c) (k + 1) ((l.take (k + 1)).map Value.string)) := by
  have e : (l.take k).map Value.string ++ [.string s] = (l.take (k + 1)).map Value.string := by rw [List.take_add_one, hs]; simp
  rw [e] at h
  have hlt := (List.getElem?_eq_some_iff.1 hs).1
  obtain ⟨A, c, rfl, _⟩ := owned_strs (by rw [List.length_take]; omega) h
  exact ⟨A, c, rfl, h⟩
theorem one_str (s : ByteArray) : ∀ u ∈ [Value.string s], u.oneCell' = true := fun u hu => by simp at hu; subst hu; rfl
theorem bigIns_step {l : List (ByteArray × List ByteArray)} {k : Nat} {x : ByteArray × List ByteArray} (hx : l[k]? = some x) (h : ¬ bigIns (l.take k)) (hz : ¬ 1024 < x.2.length) : ¬ bigIns (l.take (k + 1)) := by
  rintro ⟨j, y, hj, hy⟩
  rw [List.getElem?_take] at hj
  split at hj
  · by_cases hjk : j < k
    · exact h ⟨j, y, by rw [List.getElem?_take, if_pos hjk]; exact hj, hy⟩
    · obtain rfl : j = k := by omega
      rw [hx] at hj
      injection hj with hj
      subst hj
      exact hz hy
  · cases hj
set_option maxHeartbeats 4000000 in
set_option maxRecDepth 100000 in
theorem refRight_any (d : Drv) (a : DrvA) (w : World) (h : DrvAt w d a) : Calls Tryd.prog 13 #[.agg (drvCells d a)] w fun e w' => e = .returned (.int .i64 (rightE d)) ∧ Below w.heap.size w w' := by
  have hb1 := Lib.hid ((Below.refl w.heap.size w).alloc (Nat.le_refl _) (.cells (drvCells d a) 29))
  have H1 := Lib.hid (h.below hb1.out)
  have hbk : Hid ((w.alloc (.cells (drvCells d a) 29)).heap[w.heap.size]? = some (.cells (drvCells d a) 29 (0, 0))) := heap_alloc_new w _
  obtain ⟨n0, hn0⟩ : ∃ n, Hid (n = d.outs.length) := ⟨_, rfl⟩
  obtain ⟨n1, hn1⟩ : ∃ n, Hid (n = d.ins.length) := ⟨_, rfl⟩
  obtain ⟨n2, hn2⟩ : ∃ n, Hid (n = d.srcs.length) := ⟨_, rfl⟩
  obtain ⟨n5, hn5⟩ : ∃ n, Hid (n = d.args.length) := ⟨_, rfl⟩
  obtain ⟨n6, hn6⟩ : ∃ n, Hid (n = d.env.length) := ⟨_, rfl⟩
  have b0 : n0 ≤ 9223372036854775807 := by have := h.l0; have := h.m0; unfold maxLen at this; have := hn0.out; omega
  have b1 : n1 ≤ 9223372036854775807 := by have := h.l1; have := h.m1; unfold maxLen at this; have := hn1.out; omega
  have b2 : n2 ≤ 9223372036854775807 := by have := h.l2; have := h.m2; unfold maxLen at this; have := hn2.out; omega
  have b5 : n5 ≤ 9223372036854775807 := by have := h.l5; have := h.m5; unfold maxLen at this; have := hn5.out; omega
  have b6 : n6 ≤ 9223372036854775807 := by have := h.l6; have := h.m6; unfold maxLen at this; have := hn6.out; omega
  clear h
  unfold drvCells at hb1 hbk H1 ⊢
  rw [← hn0.out, ← hn1.out, ← hn2.out, ← hn5.out, ← hn6.out] at hb1 hbk H1 ⊢
  obtain ⟨A0, A1, A2, A5, A6, c0, c1, c2, c5, c6⟩ := a
  dsimp only at hb1 hbk H1 ⊢
  go_enter Tryd.func13, Tryd.ntmps13
  go_upto_region 1 with (fail)
  obtain ⟨gd, hgd⟩ : ∃ gd, Hid (gd = w.heap.size) := ⟨_, rfl⟩
  have hBK : Hid (Blk (w.alloc (.cells #[.slice A0 n0 c0, .slice A1 n1 c1, .slice A2 n2 c2, .string d.sys, .string d.bld, .slice A5 n5 c5, .slice A6 n6 c6] 29)) gd 29 #[.slice A0 n0 c0, .slice A1 n1 c1, .slice A2 n2 c2, .string d.sys, .string d.bld, .slice A5 n5 c5, .slice A6 n6 c6]) := by rw [hgd.out]; exact hbk.out
  rw [← hgd.out]
  clear hbk
  generalize w.alloc (.cells #[.slice A0 n0 c0, .slice A1 n1 c1, .slice A2 n2 c2, .string d.sys, .string d.bld, .slice A5 n5 c5, .slice A6 n6 c6] 29) = wb at *
  have f0 : wb.cell? ⟨gd, 0, none⟩ = some (.slice A0 n0 c0) := hBK.out.cell 0
  have f1 : wb.cell? ⟨gd, 1, none⟩ = some (.slice A1 n1 c1) := hBK.out.cell 1
  have f2 : wb.cell? ⟨gd, 2, none⟩ = some (.slice A2 n2 c2) := hBK.out.cell 2
  have f5 : wb.cell? ⟨gd, 5, none⟩ = some (.slice A5 n5 c5) := hBK.out.cell 5
  have f6 : wb.cell? ⟨gd, 6, none⟩ = some (.slice A6 n6 c6) := hBK.out.cell 6
  have hF : Hid (∀ W, Below wb.heap.size wb W → W.cell? ⟨gd, 0, none⟩ = some (.slice A0 n0 c0) ∧ W.cell? ⟨gd, 1, none⟩ = some (.slice A1 n1 c1) ∧ W.cell? ⟨gd, 2, none⟩ = some (.slice A2 n2 c2) ∧ W.cell? ⟨gd, 6, none⟩ = some (.slice A6 n6 c6)) := fun W hb =>
    ⟨(hb.cell (World.block_lt_of_cell? wb _ f0)).trans f0, (hb.cell (World.block_lt_of_cell? wb _ f1)).trans f1, (hb.cell (World.block_lt_of_cell? wb _ f2)).trans f2, (hb.cell (World.block_lt_of_cell? wb _ f6)).trans f6⟩
  have hbig0 : Hid (big0 d ↔ 1024 < n0 ∨ 1024 < n1 ∨ 1024 < n2 ∨ 1024 < n5 ∨ 1024 < n6) := by rw [Hid, hn0.out, hn1.out, hn2.out, hn5.out, hn6.out]; exact Iff.rfl
  by_cases hbg : big0 d
  · have hr : Hid (rightE d = 3) := if_pos (.inl hbg)
    have hbg' := hbig0.out.1 hbg
    clear hbg
    by_cases x0 : 1024 < n0
    · as_aux_lemma =>
        have y0 : (1024 : Int) < (n0 : Int) := by omega
        go_wp2_with fail
        go_ret
        exact ⟨by rw [hr.out]; rfl, hb1.out⟩
    have y0 : ¬ (1024 : Int) < (n0 : Int) := by omega
    by_cases x1 : 1024 < n1
    · as_aux_lemma =>
        have y1 : (1024 : Int) < (n1 : Int) := by omega
        go_wp2_with fail
        go_ret
        exact ⟨by rw [hr.out]; rfl, hb1.out⟩
    have y1 : ¬ (1024 : Int) < (n1 : Int) := by omega
    by_cases x2 : 1024 < n2
    · as_aux_lemma =>
        have y2 : (1024 : Int) < (n2 : Int) := by omega
        go_wp2_with fail
        go_ret
        exact ⟨by rw [hr.out]; rfl, hb1.out⟩
    have y2 : ¬ (1024 : Int) < (n2 : Int) := by omega
    by_cases x3 : 1024 < n5
    · as_aux_lemma =>
        have y3 : (1024 : Int) < (n5 : Int) := by omega
        go_wp2_with fail
        go_ret
        exact ⟨by rw [hr.out]; rfl, hb1.out⟩
    have y3 : ¬ (1024 : Int) < (n5 : Int) := by omega
    by_cases x4 : 1024 < n6
    · as_aux_lemma =>
        have y4 : (1024 : Int) < (n6 : Int) := by omega
        go_wp2_with fail
        go_ret
        exact ⟨by rw [hr.out]; rfl, hb1.out⟩
    have y4 : ¬ (1024 : Int) < (n6 : Int) := by omega
    omega
  · have hsm : n0 ≤ 1024 ∧ n1 ≤ 1024 ∧ n2 ≤ 1024 ∧ n5 ≤ 1024 ∧ n6 ≤ 1024 := by
      have h : ¬ (1024 < n0 ∨ 1024 < n1 ∨ 1024 < n2 ∨ 1024 < n5 ∨ 1024 < n6) := fun h => hbg (hbig0.out.2 h)
      omega
    obtain ⟨s0, s1, s2, s5, s6⟩ := hsm
    have y0 : ¬ (1024 : Int) < (n0 : Int) := by omega
    have y1 : ¬ (1024 : Int) < (n1 : Int) := by omega
    have y2 : ¬ (1024 : Int) < (n2 : Int) := by omega
    have y5 : ¬ (1024 : Int) < (n5 : Int) := by omega
    have y6 : ¬ (1024 : Int) < (n6 : Int) := by omega
    have hbg2 := Lib.hid hbg
    clear hbg
    go_wp2_with fail
    clear y0 y1 y2 y5 y6
    go_loop [3] (fun t3 => ∃ i : Nat, t3 = .int .i64 i ∧ i ≤ n1 ∧ Hid (¬ bigIns (d.ins.take i))) (fun t3 => n1 - (intOf t3).toNat)
    case atStart => exact ⟨0, rfl, by omega, by rintro ⟨j, y, hj, _⟩; simp at hj⟩
    case round =>
      obtain ⟨i, rfl, hi, hb⟩ := hrel
      by_cases hlt : i < n1
      · obtain ⟨x, hx⟩ : ∃ x, Hid (d.ins[i]? = some x) := ⟨_, List.getElem?_eq_getElem (by rw [← hn1.out]; exact hlt)⟩
        obtain ⟨g, o, An, cn, e1, q1, q2, q3, q4, _⟩ := H1.out.ins i x hx.out
        dsimp only at e1
        subst e1
        obtain ⟨z, hz⟩ : ∃ z, Hid (z = x.2.length) := ⟨_, rfl⟩
        rw [← hz.out] at q2 q3
        unfold maxLen at q4
        have d1 : (i : Int) < (n1 : Int) := by omega
        have d2 : (0 : Int) ≤ (i : Int) := by omega
        clear q1
        by_cases hbz : 1024 < z
        · have d3 : (1024 : Int) < (z : Int) := by omega
          have hr : Hid (rightE d = 3) := if_pos (.inr ⟨i, x, hx.out, by rw [← hz.out]; exact hbz⟩)
          go_wp2_with fail
          go_ret
          exact ⟨by rw [hr.out]; rfl, hb1.out⟩
        · have d3 : ¬ (1024 : Int) < (z : Int) := by omega
          go_wp2_with fail
          refine ⟨⟨i + 1, by first | rfl | simp, by omega, bigIns_step hx.out hb.out (by rw [← hz.out]; exact hbz)⟩, by simp [intOf]; omega⟩
      · obtain rfl : n1 = i := by omega
        have hr : Hid (rightE d = if formD d = true then 0 else 10) := by
          have h := hb.out
          rw [List.take_of_length_le (by rw [← hn1.out]; exact Nat.le_refl _)] at h
          exact if_neg (fun hh => hh.elim hbg2.out h)
        have d1 : ¬ (n1 : Int) < (n1 : Int) := by omega
        clear hb hbg2 hbig0
        obtain ⟨i0, hi0, hz0, hz1, hz2⟩ := info_parts info9'
        have E0 := Lib.hid hz0
        have E1 := Lib.hid hz1
        have E2 := Lib.hid hz2
        have EI := Lib.hid hi0
        clear hi0 hz0 hz1 hz2
        have HBW : Hid (∀ W, Below wb.heap.size wb W → Below w.heap.size w W) := fun W hb => below_step' hb1.out hb
        have hrf := Lib.hid (Below.refl wb.heap.size wb)
        go_upto_block 2 with (fail)
        clear f0 f1 f2 f5 f6
        go_cut [4] (fun t4 wx => ∃ (A4 : Option Addr) (c4 : Nat), t4 = .slice A4 n0 c4 ∧ c4 ≤ 9223372036854775807 ∧ n0 ≤ c4 ∧ Hid (StrsAt wx A4 (d.outs.map (·.1))) ∧ Hid (Below wb.heap.size wb wx))
        case first =>
          as_aux_lemma =>
            go_wp2_with fail
            go_loopw [4, 7] (fun t4 t7 wr => ∃ (k c4 : Nat) (A4 : Option Addr), t4 = .slice A4 k c4 ∧ t7 = .int .i64 k ∧ k ≤ n0 ∧ Hid (wr.ownsRow wb.heap.size 9 1 (.slice A4 k c4) k (((d.outs.map (·.1)).take k).map Value.string)) ∧ Hid (Below wb.heap.size wb wr)) (fun _ t7 _ => n0 - (intOf t7).toNat)
            case atStart => exact ⟨0, 0, none, rfl, rfl, by omega, World.ownsRow_nil _ _ _ _, Lib.hid (Below.refl _ _)⟩
            case round =>
              obtain ⟨k, c4, A4, rfl, rfl, hk, HO, HB⟩ := hrel
              have HBb : Below wb.heap.size wb wr := HB.out
              obtain ⟨f0, f1, f2, f6⟩ := hF.out wr HBb
              by_cases hlt : k < n0
              · obtain ⟨x, hx⟩ : ∃ x, Hid (d.outs[k]? = some x) := ⟨_, List.getElem?_eq_getElem (by rw [← hn0.out]; exact hlt)⟩
                obtain ⟨g, o, e1, q1, _, _⟩ := H1.out.outs k x hx.out
                dsimp only at e1
                subst e1
                have r1 := (HBb.cell (World.block_lt_of_cell? wb _ q1)).trans q1
                have d1 : (k : Int) < (n0 : Int) := by omega
                have d2 : (0 : Int) ≤ (k : Int) := by omega
                have hkey : Hid (((d.outs.map (·.1)))[k]? = some x.1) := map_at hx.out
                clear q1
                go_wp2_with (at_builtin; refine append_any rfl (.tmp 60) (.tmp 67) 26 rfl wb.heap.size 9 i0 (.string ⟨#[]⟩) 16 Tryd.underlying26 EI.out E0.out E1.out E2.out rfl _ k (((d.outs.map (·.1)).take k).map Value.string) rfl (HO.out.alloc _) (some ⟨wr.heap.size, 0, none⟩) 1 1 [.string x.1] rfl rfl (fun h => by cases h) (fun ad h => by cases h; exact cell_one_new _ _ _) (one_str _) (by unfold maxLen; omega) (by omega) (by have := HB.out.size; simp; omega) ?_; intro v5 w5 hown5 hb5; obtain ⟨A5x, c5x, rfl, HO5⟩ := strs_step hkey.out hown5; have HB5 : Hid (Below wb.heap.size wb w5) := (HB.out.alloc HB.out.size _).trans hb5; clear hown5 hb5)
                refine ⟨⟨k + 1, c5x, A5x, by first | rfl | exact ⟨rfl, rfl, rfl⟩, by first | rfl | simp, by omega, HO5, HB5⟩, by simp [intOf]; omega⟩
              · obtain rfl : n0 = k := by omega
                have d1 : ¬ (n0 : Int) < (n0 : Int) := by omega
                obtain ⟨A9, c9, e9, h91, h92, HS9⟩ := owned_strs (l := (d.outs.map (·.1))) (by rw [List.length_map, ← hn0.out]) (by have h := HO.out; rw [List.take_of_length_le (by rw [List.length_map, ← hn0.out]; exact Nat.le_refl _)] at h; exact h)
                injection e9 with e91 e92 e93
                subst e91 e93
                have HS9h := Lib.hid HS9
                unfold maxLen at h92
                clear HS9
                go_wp2_with fail
                go_meet
                exact ⟨A4, c4, rfl, h92, h91, HS9h, HB⟩
        case rest =>
          obtain ⟨A4, c4, rfl, hc4, hn4, HN4, HB4⟩ := hcut
          obtain ⟨w2, rfl⟩ : ∃ w2 : World, w2 = wc := ⟨_, rfl⟩
          obtain ⟨f0, f1, f2, f6⟩ := hF.out w2 HB4.out
          go_upto_block 4 with (fail)
          clear f0 f1 f2 f6
          go_cut [5] (fun t5 wx => ∃ (A7 : Option Addr) (c7 : Nat), t5 = .slice A7 n1 c7 ∧ c7 ≤ 9223372036854775807 ∧ n1 ≤ c7 ∧ Hid (StrsAt wx A7 (d.ins.map (·.1))) ∧ Hid (Below w2.heap.size w2 wx) ∧ Hid ((d.ins.any fun x => oddB x.2) = false))
          case first =>
            as_aux_lemma =>
              go_wp2_with fail
              go_loopw [5, 8] (fun t4 t7 wr => ∃ (k c4 : Nat) (A4 : Option Addr), t4 = .slice A4 k c4 ∧ t7 = .int .i64 k ∧ k ≤ n1 ∧ Hid (wr.ownsRow w2.heap.size 9 1 (.slice A4 k c4) k (((d.ins.map (·.1)).take k).map Value.string)) ∧ Hid (Below w2.heap.size w2 wr) ∧ Hid ((d.ins.take k).any (fun x => oddB x.2) = false)) (fun _ t7 _ => n1 - (intOf t7).toNat)
              case atStart => exact ⟨0, 0, none, rfl, rfl, by omega, World.ownsRow_nil _ _ _ _, Lib.hid (Below.refl _ _), rfl⟩
              case round =>
                obtain ⟨k, c4, A4, rfl, rfl, hk, HO, HB, HCK⟩ := hrel
                have HBb : Below wb.heap.size wb wr := (below_step' HB4.out HB.out)
                obtain ⟨f0, f1, f2, f6⟩ := hF.out wr HBb
                by_cases hlt : k < n1
                · obtain ⟨x, hx⟩ : ∃ x, Hid (d.ins[k]? = some x) := ⟨_, List.getElem?_eq_getElem (by rw [← hn1.out]; exact hlt)⟩
                  obtain ⟨g, o, An, cn, e1, q1, q2, q3, q4, q5⟩ := H1.out.ins k x hx.out
                  dsimp only at e1
                  subst e1
                  have r1 := (HBb.cell (World.block_lt_of_cell? wb _ q1)).trans q1
                  have d1 : (k : Int) < (n1 : Int) := by omega
                  have d2 : (0 : Int) ≤ (k : Int) := by omega
                  have hkey : Hid (((d.ins.map (·.1)))[k]? = some x.1) := map_at hx.out
                  clear q1
                  go_upto_region 17 with (first | (at_builtin; refine append_any rfl (.tmp 76) (.tmp 83) 26 rfl w2.heap.size 9 i0 (.string ⟨#[]⟩) 16 Tryd.underlying26 EI.out E0.out E1.out E2.out rfl _ k (((d.ins.map (·.1)).take k).map Value.string) rfl (HO.out.alloc _) (some ⟨wr.heap.size, 0, none⟩) 1 1 [.string x.1] rfl rfl (fun h => by cases h) (fun ad h => by cases h; exact cell_one_new _ _ _) (one_str _) (by unfold maxLen; omega) (by omega) (by have := HB.out.size; simp; omega) ?_; intro v5 w5 hown5 hb5; obtain ⟨A5x, c5x, rfl, HO5⟩ := strs_step hkey.out hown5; have HB5 : Hid (Below w2.heap.size w2 w5) := (HB.out.alloc HB.out.size _).trans hb5; clear hown5 hb5) | fail)
                  have HBb5 : Below wb.heap.size wb w5 := below_step' HB4.out HB5.out
                  obtain ⟨f0, f1, f2, f6⟩ := hF.out w5 HBb5
                  have r2 := (HBb5.cell (World.block_lt_of_cell? wb _ q2)).trans q2
                  have C42 := Lib.hid (refRises_any An x.2 cn (Nat.le_trans q3 q4) w5 (q5.1.below HBb5))
                  obtain ⟨z, hz⟩ : ∃ z, Hid (z = x.2.length) := ⟨_, rfl⟩
                  rw [← hz.out] at r2 C42 q3
                  have hod : Hid (oddB x.2 = (z == 0 || !rises x.2)) := by rw [hz.out]; rfl
                  have hff : oddB x.2 = true → Hid (rightE d = 10) := fun h => by
                    have h2 : formD d = false := by
                      unfold formD
                      rw [any_hit (fun x => oddB x.2) d.ins k x hx.out h]
                      simp
                    rw [Hid, hr.out, h2]
                    rfl
                  have e5 : (k : Int) < ((k + 1 : Nat) : Int) := by omega
                  unfold maxLen at q4
                  clear q2 q5
                  by_cases hz0 : z = 0
                  · subst hz0
                    have hr3 := hff (by rw [hod.out]; rfl)
                    go_wp2_with fail
                    go_ret
                    exact ⟨by rw [hr3.out]; rfl, HBW.out _ HBb5⟩
                  · have ez : ((z : Int) == 0) = false := by simpa using hz0
                    cases hrs : rises x.2
                    · rw [hrs] at C42
                      have hr3 := hff (by rw [hod.out, hrs]; simp)
                      go_wp2_with (first | (go_at_call 42; refine C42.out.mono ?_; rintro e w6 ⟨rfl, m6, rfl⟩) | fail)
                      go_ret
                      exact ⟨by rw [hr3.out]; rfl, HBW.out _ (below_drewN' HBb5 m6)⟩
                    · rw [hrs] at C42
                      have hod2 : oddB x.2 = false := by rw [hod.out, hrs]; simp [hz0]
                      go_wp2_with (first | (go_at_call 42; refine C42.out.mono ?_; rintro e w6 ⟨rfl, m6, rfl⟩) | fail)
                      refine ⟨⟨k + 1, c5x, A5x, by first | rfl | exact ⟨rfl, rfl, rfl⟩, by first | rfl | simp, by omega, HO5, below_drewN' HB5.out m6, by rw [any_take_step _ d.ins k x hx.out, HCK.out, hod2]; rfl⟩, by simp [intOf]; omega⟩
                · obtain rfl : n1 = k := by omega
                  have d1 : ¬ (n1 : Int) < (n1 : Int) := by omega
                  obtain ⟨A9, c9, e9, h91, h92, HS9⟩ := owned_strs (l := (d.ins.map (·.1))) (by rw [List.length_map, ← hn1.out]) (by have h := HO.out; rw [List.take_of_length_le (by rw [List.length_map, ← hn1.out]; exact Nat.le_refl _)] at h; exact h)
                  injection e9 with e91 e92 e93
                  subst e91 e93
                  have HS9h := Lib.hid HS9
                  unfold maxLen at h92
                  clear HS9
                  go_wp2_with fail
                  go_meet
                  exact ⟨A4, c4, rfl, h92, h91, HS9h, HB, by have h := HCK.out; rwa [List.take_of_length_le (by rw [← hn1.out]; exact Nat.le_refl _)] at h⟩
          case rest =>
            obtain ⟨A7, c7, rfl, hc7, hn7, HN7, HB7, HODD⟩ := hcut
            obtain ⟨w3, rfl⟩ : ∃ w3 : World, w3 = wc := ⟨_, rfl⟩
            have HN4b : Hid (StrsAt w3 A4 (d.outs.map (·.1))) := HN4.out.below HB7.out
            have HB3 : Hid (Below wb.heap.size wb w3) := below_step' HB4.out HB7.out
            obtain ⟨f0, f1, f2, f6⟩ := hF.out w3 HB3.out
            clear HN4 HB4 HB7
            go_upto_block 6 with (fail)
            clear f0 f1 f2 f6
            go_cut [6] (fun t6 wx => ∃ (A8 : Option Addr) (c8 : Nat), t6 = .slice A8 n6 c8 ∧ c8 ≤ 9223372036854775807 ∧ n6 ≤ c8 ∧ Hid (StrsAt wx A8 (d.env.map (·.1))) ∧ Hid (Below w3.heap.size w3 wx))
            case first =>
              as_aux_lemma =>
                go_wp2_with fail
                go_loopw [6, 9] (fun t4 t7 wr => ∃ (k c4 : Nat) (A4 : Option Addr), t4 = .slice A4 k c4 ∧ t7 = .int .i64 k ∧ k ≤ n6 ∧ Hid (wr.ownsRow w3.heap.size 9 1 (.slice A4 k c4) k (((d.env.map (·.1)).take k).map Value.string)) ∧ Hid (Below w3.heap.size w3 wr)) (fun _ t7 _ => n6 - (intOf t7).toNat)
                case atStart => exact ⟨0, 0, none, rfl, rfl, by omega, World.ownsRow_nil _ _ _ _, Lib.hid (Below.refl _ _)⟩
                case round =>
                  obtain ⟨k, c4, A4, rfl, rfl, hk, HO, HB⟩ := hrel
                  have HBb : Below wb.heap.size wb wr := (below_step' HB3.out HB.out)
                  obtain ⟨f0, f1, f2, f6⟩ := hF.out wr HBb
                  by_cases hlt : k < n6
                  · obtain ⟨x, hx⟩ : ∃ x, Hid (d.env[k]? = some x) := ⟨_, List.getElem?_eq_getElem (by rw [← hn6.out]; exact hlt)⟩
                    obtain ⟨g, o, e1, q1, _⟩ := H1.out.env k x hx.out
                    dsimp only at e1
                    subst e1
                    have r1 := (HBb.cell (World.block_lt_of_cell? wb _ q1)).trans q1
                    have d1 : (k : Int) < (n6 : Int) := by omega
                    have d2 : (0 : Int) ≤ (k : Int) := by omega
                    have hkey : Hid (((d.env.map (·.1)))[k]? = some x.1) := map_at hx.out
                    clear q1
                    go_wp2_with (at_builtin; refine append_any rfl (.tmp 110) (.tmp 117) 26 rfl w3.heap.size 9 i0 (.string ⟨#[]⟩) 16 Tryd.underlying26 EI.out E0.out E1.out E2.out rfl _ k (((d.env.map (·.1)).take k).map Value.string) rfl (HO.out.alloc _) (some ⟨wr.heap.size, 0, none⟩) 1 1 [.string x.1] rfl rfl (fun h => by cases h) (fun ad h => by cases h; exact cell_one_new _ _ _) (one_str _) (by unfold maxLen; omega) (by omega) (by have := HB.out.size; simp; omega) ?_; intro v5 w5 hown5 hb5; obtain ⟨A5x, c5x, rfl, HO5⟩ := strs_step hkey.out hown5; have HB5 : Hid (Below w3.heap.size w3 w5) := (HB.out.alloc HB.out.size _).trans hb5; clear hown5 hb5)
                    refine ⟨⟨k + 1, c5x, A5x, by first | rfl | exact ⟨rfl, rfl, rfl⟩, by first | rfl | simp, by omega, HO5, HB5⟩, by simp [intOf]; omega⟩
                  · obtain rfl : n6 = k := by omega
                    have d1 : ¬ (n6 : Int) < (n6 : Int) := by omega
                    obtain ⟨A9, c9, e9, h91, h92, HS9⟩ := owned_strs (l := (d.env.map (·.1))) (by rw [List.length_map, ← hn6.out]) (by have h := HO.out; rw [List.take_of_length_le (by rw [List.length_map, ← hn6.out]; exact Nat.le_refl _)] at h; exact h)
                    injection e9 with e91 e92 e93
                    subst e91 e93
                    have HS9h := Lib.hid HS9
                    unfold maxLen at h92
                    clear HS9
                    go_wp2_with fail
                    go_meet
                    exact ⟨A4, c4, rfl, h92, h91, HS9h, HB⟩
            case rest =>
              obtain ⟨A8, c8, rfl, hc8, hn8, HN8, HB8⟩ := hcut
              obtain ⟨w4, rfl⟩ : ∃ w4 : World, w4 = wc := ⟨_, rfl⟩
              have HBr := below_step' HB3.out HB8.out
              obtain ⟨f0, f1, f2, f6⟩ := hF.out w4 HBr
              have hl1 : (d.outs.map (·.1)).length = n0 := by rw [List.length_map, hn0.out]
              have hl2 : (d.ins.map (·.1)).length = n1 := by rw [List.length_map, hn1.out]
              have hl3 : (d.env.map (·.1)).length = n6 := by rw [List.length_map, hn6.out]
              have C1 : Hid (∀ W, (∃ m, W = w4.drewN m) → Calls Tryd.prog 42 #[.slice A4 n0 c4] W fun e w' => e = .returned (.bool (rises (d.outs.map (·.1)))) ∧ ∃ n, w' = w4.drewN n) := fun W hW => by
                obtain ⟨m, rfl⟩ := hW
                have h := refRises_any A4 (d.outs.map (·.1)) c4 (by rw [hl1]; unfold maxLen; omega) (w4.drewN m) ((HN4b.out.below HB8.out).drewN m)
                rw [hl1] at h
                refine Calls.mono h ?_
                rintro e w' ⟨rfl, n, rfl⟩
                exact ⟨rfl, m + n, World.drewN_drewN _ _ _⟩
              have C2 : Hid (∀ W, (∃ m, W = w4.drewN m) → Calls Tryd.prog 42 #[.slice A7 n1 c7] W fun e w' => e = .returned (.bool (rises (d.ins.map (·.1)))) ∧ ∃ n, w' = w4.drewN n) := fun W hW => by
                obtain ⟨m, rfl⟩ := hW
                have h := refRises_any A7 (d.ins.map (·.1)) c7 (by rw [hl2]; unfold maxLen; omega) (w4.drewN m) ((HN7.out.below HB8.out).drewN m)
                rw [hl2] at h
                refine Calls.mono h ?_
                rintro e w' ⟨rfl, n, rfl⟩
                exact ⟨rfl, m + n, World.drewN_drewN _ _ _⟩
              have C3 : Hid (∀ W, (∃ m, W = w4.drewN m) → Calls Tryd.prog 42 #[.slice A2 n2 c2] W fun e w' => e = .returned (.bool (rises d.srcs)) ∧ ∃ n, w' = w4.drewN n) := fun W hW => by
                obtain ⟨m, rfl⟩ := hW
                have h := refRises_any A2 d.srcs c2 (by rw [← hn2.out]; unfold maxLen; omega) (w4.drewN m) ((H1.out.srcs.below HBr).drewN m)
                rw [← hn2.out] at h
                refine Calls.mono h ?_
                rintro e w' ⟨rfl, n, rfl⟩
                exact ⟨rfl, m + n, World.drewN_drewN _ _ _⟩
              have C4 : Hid (∀ W, (∃ m, W = w4.drewN m) → Calls Tryd.prog 42 #[.slice A8 n6 c8] W fun e w' => e = .returned (.bool (rises (d.env.map (·.1)))) ∧ ∃ n, w' = w4.drewN n) := fun W hW => by
                obtain ⟨m, rfl⟩ := hW
                have h := refRises_any A8 (d.env.map (·.1)) c8 (by rw [hl3]; unfold maxLen; omega) (w4.drewN m) (HN8.out.drewN m)
                rw [hl3] at h
                refine Calls.mono h ?_
                rintro e w' ⟨rfl, n, rfl⟩
                exact ⟨rfl, m + n, World.drewN_drewN _ _ _⟩
              have hfd : Hid (formD d = (decide (0 < n0) && rises (d.outs.map (·.1)) && rises (d.ins.map (·.1)) && !(false) && rises d.srcs && rises (d.env.map (·.1)))) := by rw [← HODD.out, Hid, hn0.out]; rfl
              have HFIN : Hid (∀ m, Below w.heap.size w (w4.drewN m)) := fun m => below_drewN' (HBW.out _ HBr) m
              clear HN4b HN7 HN8 HB8 HB3 hl1 hl2 hl3 H1 HODD
              generalize rises (d.outs.map (·.1)) = b1 at *
              generalize rises (d.ins.map (·.1)) = b2 at *
              generalize rises d.srcs = b4 at *
              generalize rises (d.env.map (·.1)) = b5 at *
              by_cases h0 : 0 < n0
              · have d3 : ((n0 : Int) == 0) = false := by simp; omega
                cases b1
                · as_aux_lemma =>
                    go_wp2_with (first | (go_at_call_of 42 (Value.slice A4 n0 c4); refine (C1.out _ (by first | exact ⟨_, rfl⟩ | exact ⟨0, rfl⟩)).mono ?_; rintro e w' ⟨rfl, m1, rfl⟩) | (go_at_call_of 42 (Value.slice A7 n1 c7); refine (C2.out _ (by first | exact ⟨_, rfl⟩ | exact ⟨0, rfl⟩)).mono ?_; rintro e w' ⟨rfl, m1, rfl⟩) | (go_at_call_of 42 (Value.slice A2 n2 c2); refine (C3.out _ (by first | exact ⟨_, rfl⟩ | exact ⟨0, rfl⟩)).mono ?_; rintro e w' ⟨rfl, m1, rfl⟩) | (go_at_call_of 42 (Value.slice A8 n6 c8); refine (C4.out _ (by first | exact ⟨_, rfl⟩ | exact ⟨0, rfl⟩)).mono ?_; rintro e w' ⟨rfl, m1, rfl⟩) | fail)
                    go_ret
                    exact ⟨by rw [hr.out, hfd.out]; (first | rfl | (simp; done) | (simp; omega) | (simp [h0]; done)), HFIN.out _⟩
                · skip
                  cases b2
                  · as_aux_lemma =>
                      go_wp2_with (first | (go_at_call_of 42 (Value.slice A4 n0 c4); refine (C1.out _ (by first | exact ⟨_, rfl⟩ | exact ⟨0, rfl⟩)).mono ?_; rintro e w' ⟨rfl, m1, rfl⟩) | (go_at_call_of 42 (Value.slice A7 n1 c7); refine (C2.out _ (by first | exact ⟨_, rfl⟩ | exact ⟨0, rfl⟩)).mono ?_; rintro e w' ⟨rfl, m1, rfl⟩) | (go_at_call_of 42 (Value.slice A2 n2 c2); refine (C3.out _ (by first | exact ⟨_, rfl⟩ | exact ⟨0, rfl⟩)).mono ?_; rintro e w' ⟨rfl, m1, rfl⟩) | (go_at_call_of 42 (Value.slice A8 n6 c8); refine (C4.out _ (by first | exact ⟨_, rfl⟩ | exact ⟨0, rfl⟩)).mono ?_; rintro e w' ⟨rfl, m1, rfl⟩) | fail)
                      go_ret
                      exact ⟨by rw [hr.out, hfd.out]; (first | rfl | (simp; done) | (simp; omega) | (simp [h0]; done)), HFIN.out _⟩
                  · skip
                    cases b4
                    · as_aux_lemma =>
                        go_wp2_with (first | (go_at_call_of 42 (Value.slice A4 n0 c4); refine (C1.out _ (by first | exact ⟨_, rfl⟩ | exact ⟨0, rfl⟩)).mono ?_; rintro e w' ⟨rfl, m1, rfl⟩) | (go_at_call_of 42 (Value.slice A7 n1 c7); refine (C2.out _ (by first | exact ⟨_, rfl⟩ | exact ⟨0, rfl⟩)).mono ?_; rintro e w' ⟨rfl, m1, rfl⟩) | (go_at_call_of 42 (Value.slice A2 n2 c2); refine (C3.out _ (by first | exact ⟨_, rfl⟩ | exact ⟨0, rfl⟩)).mono ?_; rintro e w' ⟨rfl, m1, rfl⟩) | (go_at_call_of 42 (Value.slice A8 n6 c8); refine (C4.out _ (by first | exact ⟨_, rfl⟩ | exact ⟨0, rfl⟩)).mono ?_; rintro e w' ⟨rfl, m1, rfl⟩) | fail)
                        go_ret
                        exact ⟨by rw [hr.out, hfd.out]; (first | rfl | (simp; done) | (simp; omega) | (simp [h0]; done)), HFIN.out _⟩
                    · skip
                      cases b5
                      · as_aux_lemma =>
                          go_wp2_with (first | (go_at_call_of 42 (Value.slice A4 n0 c4); refine (C1.out _ (by first | exact ⟨_, rfl⟩ | exact ⟨0, rfl⟩)).mono ?_; rintro e w' ⟨rfl, m1, rfl⟩) | (go_at_call_of 42 (Value.slice A7 n1 c7); refine (C2.out _ (by first | exact ⟨_, rfl⟩ | exact ⟨0, rfl⟩)).mono ?_; rintro e w' ⟨rfl, m1, rfl⟩) | (go_at_call_of 42 (Value.slice A2 n2 c2); refine (C3.out _ (by first | exact ⟨_, rfl⟩ | exact ⟨0, rfl⟩)).mono ?_; rintro e w' ⟨rfl, m1, rfl⟩) | (go_at_call_of 42 (Value.slice A8 n6 c8); refine (C4.out _ (by first | exact ⟨_, rfl⟩ | exact ⟨0, rfl⟩)).mono ?_; rintro e w' ⟨rfl, m1, rfl⟩) | fail)
                          go_ret
                          exact ⟨by rw [hr.out, hfd.out]; (first | rfl | (simp; done) | (simp; omega) | (simp [h0]; done)), HFIN.out _⟩
                      · skip
                        as_aux_lemma =>
                          go_wp2_with (first | (go_at_call_of 42 (Value.slice A4 n0 c4); refine (C1.out _ (by first | exact ⟨_, rfl⟩ | exact ⟨0, rfl⟩)).mono ?_; rintro e w' ⟨rfl, m1, rfl⟩) | (go_at_call_of 42 (Value.slice A7 n1 c7); refine (C2.out _ (by first | exact ⟨_, rfl⟩ | exact ⟨0, rfl⟩)).mono ?_; rintro e w' ⟨rfl, m1, rfl⟩) | (go_at_call_of 42 (Value.slice A2 n2 c2); refine (C3.out _ (by first | exact ⟨_, rfl⟩ | exact ⟨0, rfl⟩)).mono ?_; rintro e w' ⟨rfl, m1, rfl⟩) | (go_at_call_of 42 (Value.slice A8 n6 c8); refine (C4.out _ (by first | exact ⟨_, rfl⟩ | exact ⟨0, rfl⟩)).mono ?_; rintro e w' ⟨rfl, m1, rfl⟩) | fail)
                          go_ret
                          exact ⟨by rw [hr.out, hfd.out]; (first | rfl | (simp; done) | (simp; omega) | (simp [h0]; done)), HFIN.out _⟩
              · have d3 : ((n0 : Int) == 0) = true := by simp; omega
                have hfd2 : Hid (formD d = false) := by rw [Hid, hfd.out]; simp [h0]
                have h00 := Lib.hid h0
                go_wp2_with (first | (go_at_call_of 42 (Value.slice A4 n0 c4); refine (C1.out _ (by first | exact ⟨_, rfl⟩ | exact ⟨0, rfl⟩)).mono ?_; rintro e w' ⟨rfl, m1, rfl⟩) | (go_at_call_of 42 (Value.slice A7 n1 c7); refine (C2.out _ (by first | exact ⟨_, rfl⟩ | exact ⟨0, rfl⟩)).mono ?_; rintro e w' ⟨rfl, m1, rfl⟩) | (go_at_call_of 42 (Value.slice A2 n2 c2); refine (C3.out _ (by first | exact ⟨_, rfl⟩ | exact ⟨0, rfl⟩)).mono ?_; rintro e w' ⟨rfl, m1, rfl⟩) | (go_at_call_of 42 (Value.slice A8 n6 c8); refine (C4.out _ (by first | exact ⟨_, rfl⟩ | exact ⟨0, rfl⟩)).mono ?_; rintro e w' ⟨rfl, m1, rfl⟩) | fail)
                go_ret
                exact ⟨by rw [hr.out, hfd2.out]; (first | rfl | (simp; done) | (simp; omega) | (simp [h0]; done)), HFIN.out 0⟩
end Go.Proofs.YtbldognffppeiaaDoor
