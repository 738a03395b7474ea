/- net.ask, walked. -/
import Derived.Test.YtbldognffppeiaaNetState
import Derived.Deep.RegionHeld3
import Derived.Deep.MidRow
import Derived.WalkMore
namespace Go.Proofs.Ytbldognffppeiaa
open Go.RowKit Go.Maps
set_option linter.unusedSimpArgs false
set_option linter.unusedVariables false
theorem net_free {w : World} {gn gm : Nat} {F : Value} {a : Nat} (h : NetB w gn gm F a) (i : Nat) : w.frozen? ⟨gn, i, none⟩ = false := by
  unfold NetB at h
  simp [World.frozen?, h]
theorem net_set {w : World} {gn gm : Nat} {F : Value} {a : Nat} (h : NetB w gn gm F a) : NetB (w.setCell ⟨gn, 2, none⟩ (.int .i64 ((a : Int) + 1))) gn gm F (a + 1) := by
  unfold NetB at h ⊢
  have hlt := (Array.getElem?_eq_some_iff.1 h).1
  have hv := (Array.getElem?_eq_some_iff.1 h).2
  unfold World.setCell
  simp only [Array.getElem?_modify, if_true, h, Option.map_some]
  simp
theorem grown_set {w W : World} {gn : Nat} (h : w.grownBy W (some gn)) (v : Value) (i : Nat) : w.grownBy (W.setCell ⟨gn, i, none⟩ v) (some gn) :=
  ⟨h.os, h.tape, h.output, by simpa [World.setCell] using h.size, fun k hk hne => (Below.heap_setCell W ⟨gn, i, none⟩ v k (fun e => hne (by rw [e]))).trans (h.block k hk hne)⟩
theorem nm_key (nm : ByteArray) (h : nm.size ≤ maxLen) : keyOf Try.prog 9 (.string nm) = some (.string nm.data.toList) := by
  unfold keyOf
  rw [Try.underlying9]
  simp [mapKey, Try.underlying9, h]
theorem wpList_look_net {w : World} {ops : Array Oper} {rest : List Oper} {o : Oper} {a : Act} {Q : Exit → Act → World → Prop} (hg : o.guard = none) (m x : Operand) (hop : o.op = Op.lookup 25 m x true)
    (gm n : Nat) (D : DataW Value) (hm : a.eval m = .map (some gm)) (hown : w.ownsMap Try.prog 9 asIs gm n D) (nm : ByteArray) (hx : a.eval x = .string nm) (hnm : nm.size ≤ maxLen) (v : Value) (hv : D.atKey (.string nm.data.toList) (.held (.slice none 0 0)) = .held v)
    (h : wpList Try.prog ops Q rest (a.put o.dst (.tuple #[v, .bool (has D (.string nm.data.toList))])) w) : wpList Try.prog ops Q (o :: rest) a w :=
  wpList_lookup_own_ok w hg m x 25 hop 9 33 (string_keyed Try.underlying9) Try.underlying25 asIs (Try.zeroValue33 w) (.held (.slice none 0 0)) [] rfl gm n D hm hown _ _ hx (nm_key nm hnm) (fun v' ps hh => by
    rw [hv] at hh
    obtain rfl : v' = v := by
      simp only [asIs, Option.some.injEq, Prod.mk.injEq, DataW.held.injEq] at hh
      exact hh.1
    exact h)
set_option maxHeartbeats 4000000 in
set_option maxRecDepth 100000 in
theorem ask_some (gn gm : Nat) (ad : Addr) (m d a : Nat) (code : Int) (ha : a < m) (hm : m ≤ 1152921504606846976) (nm : ByteArray) (hnm : nm.size ≤ maxLen) (w : World) (hN : NetB w gn gm (.slice (some ad) m d) a) (hc : w.cell? (ad.add a) = some (.int .i64 code)) (hne : ad.block ≠ gn) (hgm : gm ≠ gn)
    (n : Nat) (D : DataW Value) (hown : w.ownsMap Try.prog 9 asIs gm n D) (v : Value) (hv : D.atKey (.string nm.data.toList) (.held (.slice none 0 0)) = .held v) :
    Calls Try.prog 16 #[.pointer (some ⟨gn, 0, none⟩), .string nm] w fun e w' => e = .returned (askV code (has D (.string nm.data.toList)) v) ∧ AskedBy w gn gm (.slice (some ad) m d) (a + 1) w' := by
  have HN := Lib.hid hN
  have n0 : w.cell? ⟨gn, 0, none⟩ = some (.map (some gm)) := by rw [cell_at hN]; rfl
  have n1 : w.cell? ⟨gn, 1, none⟩ = some (.slice (some ad) m d) := by rw [cell_at hN]; rfl
  have n2 : w.cell? ⟨gn, 2, none⟩ = some (.int .i64 (a : Int)) := by rw [cell_at hN]; rfl
  have hlt : (a : Int) < (m : Int) := by omega
  clear hN
  go_enter Try.func16, Try.ntmps16
  go_wp2_with fail
  go_quiet (fail)
  have hg1 : Hid (w.grownBy (w.drewN nq) (some gn)) := ⟨rfl, rfl, rfl, Nat.le_refl _, fun _ _ _ => rfl⟩
  have HN1 : Hid (NetB (w.drewN nq) gn gm (.slice (some ad) m d) a) := HN.out
  have q0 : (w.drewN nq).cell? ⟨gn, 0, none⟩ = some (.map (some gm)) := n0
  have q1 : (w.drewN nq).cell? ⟨gn, 1, none⟩ = some (.slice (some ad) m d) := n1
  have q2 : (w.drewN nq).cell? ⟨gn, 2, none⟩ = some (.int .i64 (a : Int)) := n2
  have qc : (w.drewN nq).cell? (ad.add a) = some (.int .i64 code) := hc
  have hown1 : Hid ((w.drewN nq).ownsMap Try.prog 9 asIs gm n D) := hown
  clear n0 n1 n2 hc hown HN
  generalize w.drewN nq = w1 at *
  go_wp2_with fail
  go_quiet (fail)
  have hg2 : Hid (w.grownBy (w1.drewN nq) (some gn)) := ⟨hg1.out.os, hg1.out.tape, hg1.out.output, hg1.out.size, hg1.out.block⟩
  have HN2 : Hid (NetB (w1.drewN nq) gn gm (.slice (some ad) m d) a) := HN1.out
  have r0 : (w1.drewN nq).cell? ⟨gn, 0, none⟩ = some (.map (some gm)) := q0
  have r2 : (w1.drewN nq).cell? ⟨gn, 2, none⟩ = some (.int .i64 (a : Int)) := q2
  have hown2 : Hid ((w1.drewN nq).ownsMap Try.prog 9 asIs gm n D) := hown1.out
  clear q0 q1 q2 qc hown1 HN1 hg1
  generalize w1.drewN nq = w2 at *
  have hfz := net_free HN2.out 2
  go_upto_region 4 with (fail)
  have HN3 := Lib.hid (net_set HN2.out)
  have hg3 := Lib.hid (grown_set hg2.out (.int .i64 ((a : Int) + 1)) 2)
  have hown3 := Lib.hid (hown2.out.setCell (a := ⟨gn, 2, none⟩) (fun e => hgm e) (.int .i64 ((a : Int) + 1)))
  clear r0 r2 hown2 HN2 hg2 hfz
  generalize w2.setCell ⟨gn, 2, none⟩ (.int .i64 ((a : Int) + 1)) = w3 at *
  have r0 : w3.cell? ⟨gn, 0, none⟩ = some (.map (some gm)) := by rw [cell_at HN3.out]; rfl
  by_cases h1 : code = 1
  · subst h1
    go_wp2_with (at_lookup; refine wpList_look_net rfl (.tmp 39) (.tmp 40) rfl gm n D rfl hown3.out nm rfl hnm v hv ?_)
    go_ret3
    exact ⟨rfl, hg3.out, HN3.out⟩
  · by_cases h4 : code = 4
    · subst h4
      go_wp2_with (at_lookup; refine wpList_look_net rfl (.tmp 39) (.tmp 40) rfl gm n D rfl hown3.out nm rfl hnm v hv ?_)
      go_ret3
      exact ⟨rfl, hg3.out, HN3.out⟩
    · have e1 : (code == 1) = false := by simpa using h1
      have e4 : (code == 4) = false := by simpa using h4
      have ea : askV code (has D (.string nm.data.toList)) v = if has D (.string nm.data.toList) = false then .tuple #[.int .i64 code, .slice none 0 0, .int .i64 14] else .tuple #[.int .i64 code, v, .int .i64 0] := by
        unfold askV
        rw [if_neg h1]
        simp [h4]
      cases hok : has D (.string nm.data.toList)
      · go_wp2_with (at_lookup; refine wpList_look_net rfl (.tmp 39) (.tmp 40) rfl gm n D rfl hown3.out nm rfl hnm v hv ?_; rw [hok])
        go_ret3
        exact ⟨by rw [hok] at ea; first | (rw [ea]; rfl) | (rw [hok, ea]; rfl), hg3.out, HN3.out⟩
      · go_wp2_with (at_lookup; refine wpList_look_net rfl (.tmp 39) (.tmp 40) rfl gm n D rfl hown3.out nm rfl hnm v hv ?_; rw [hok])
        go_ret3
        exact ⟨by rw [hok] at ea; first | (rw [ea]; rfl) | (rw [hok, ea]; rfl), hg3.out, HN3.out⟩
set_option maxHeartbeats 4000000 in
set_option maxRecDepth 100000 in
theorem ask_rest (gn gm : Nat) (B : Option Addr) (m d a : Nat) (ha : m ≤ a) (hab : a ≤ 1048576) (nm : ByteArray) (hnm : nm.size ≤ maxLen) (w : World) (hN : NetB w gn gm (.slice B m d) a) (hgm : gm ≠ gn)
    (n : Nat) (D : DataW Value) (hown : w.ownsMap Try.prog 9 asIs gm n D) (v : Value) (hv : D.atKey (.string nm.data.toList) (.held (.slice none 0 0)) = .held v) :
    Calls Try.prog 16 #[.pointer (some ⟨gn, 0, none⟩), .string nm] w fun e w' => e = .returned (askV 0 (has D (.string nm.data.toList)) v) ∧ AskedBy w gn gm (.slice B m d) (a + 1) w' := by
  have HN := Lib.hid hN
  have n0 : w.cell? ⟨gn, 0, none⟩ = some (.map (some gm)) := by rw [cell_at hN]; rfl
  have n1 : w.cell? ⟨gn, 1, none⟩ = some (.slice B m d) := by rw [cell_at hN]; rfl
  have n2 : w.cell? ⟨gn, 2, none⟩ = some (.int .i64 (a : Int)) := by rw [cell_at hN]; rfl
  have hlt : ¬ ((a : Int) < (m : Int)) := by omega
  have hdm : decide (a < m) = false := by rw [decide_eq_false_iff_not]; omega
  clear hN
  go_enter Try.func16, Try.ntmps16
  go_wp2_with fail
  go_quiet (fail)
  have hg2 : Hid (w.grownBy (w.drewN nq) (some gn)) := ⟨rfl, rfl, rfl, Nat.le_refl _, fun _ _ _ => rfl⟩
  have HN2 : Hid (NetB (w.drewN nq) gn gm (.slice B m d) a) := HN.out
  have r0 : (w.drewN nq).cell? ⟨gn, 0, none⟩ = some (.map (some gm)) := n0
  have r2 : (w.drewN nq).cell? ⟨gn, 2, none⟩ = some (.int .i64 (a : Int)) := n2
  have hown2 : Hid ((w.drewN nq).ownsMap Try.prog 9 asIs gm n D) := hown
  clear n0 n1 n2 hown HN
  generalize w.drewN nq = w2 at *
  have hfz := net_free HN2.out 2
  go_upto_region 4 with (fail)
  have HN3 := Lib.hid (net_set HN2.out)
  have hg3 := Lib.hid (grown_set hg2.out (.int .i64 ((a : Int) + 1)) 2)
  have hown3 := Lib.hid (hown2.out.setCell (a := ⟨gn, 2, none⟩) (fun e => hgm e) (.int .i64 ((a : Int) + 1)))
  clear r0 r2 hown2 HN2 hg2 hfz
  generalize w2.setCell ⟨gn, 2, none⟩ (.int .i64 ((a : Int) + 1)) = w3 at *
  have r0 : w3.cell? ⟨gn, 0, none⟩ = some (.map (some gm)) := by rw [cell_at HN3.out]; rfl
  cases hok : has D (.string nm.data.toList)
  · go_wp2_with (at_lookup; refine wpList_look_net rfl (.tmp 39) (.tmp 40) rfl gm n D rfl hown3.out nm rfl hnm v hv ?_; rw [hok])
    go_ret3
    exact ⟨by rw [hok]; rfl, hg3.out, HN3.out⟩
  · go_wp2_with (at_lookup; refine wpList_look_net rfl (.tmp 39) (.tmp 40) rfl gm n D rfl hown3.out nm rfl hnm v hv ?_; rw [hok])
    go_ret3
    exact ⟨by rw [hok]; rfl, hg3.out, HN3.out⟩
/-- One question. -/
theorem ask_any (gn gm : Nat) (B : Option Addr) (zs : List Int) (d a : Nat) (hm : zs.length ≤ 1152921504606846976) (hab : a ≤ 1048576) (nm : ByteArray) (hnm : nm.size ≤ maxLen) (w : World) (hN : NetB w gn gm (.slice B zs.length d) a) (hB : FaultsAt w B zs) (hgm : gm ≠ gn)
    (hne : ∀ ad, B = some ad → ad.block ≠ gn) (n : Nat) (D : DataW Value) (hown : w.ownsMap Try.prog 9 asIs gm n D) (v : Value) (hv : D.atKey (.string nm.data.toList) (.held (.slice none 0 0)) = .held v) :
    Calls Try.prog 16 #[.pointer (some ⟨gn, 0, none⟩), .string nm] w fun e w' => e = .returned (askV (codeAt zs a) (has D (.string nm.data.toList)) v) ∧ AskedBy w gn gm (.slice B zs.length d) (a + 1) w' := by
  by_cases h : a < zs.length
  · obtain ⟨ad, rfl, hc⟩ := hB a zs[a] (List.getElem?_eq_getElem h)
    have e1 : codeAt zs a = zs[a] := by unfold codeAt; rw [List.getD_eq_getElem?_getD, List.getElem?_eq_getElem h]; rfl
    rw [e1]
    exact ask_some gn gm ad zs.length d a zs[a] h hm nm hnm w hN hc (hne ad rfl) hgm n D hown v hv
  · have e1 : codeAt zs a = 0 := by unfold codeAt; rw [List.getD_eq_getElem?_getD, List.getElem?_eq_none (by omega)]; rfl
    rw [e1]
    exact ask_rest gn gm B zs.length d a (by omega) hab nm hnm w hN hgm n D hown v hv
end Go.Proofs.Ytbldognffppeiaa
