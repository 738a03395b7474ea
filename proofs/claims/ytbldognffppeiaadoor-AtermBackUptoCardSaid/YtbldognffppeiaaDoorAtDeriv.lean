/- The reader's derivation, walked. -/
import Derived.Test.YtbldognffppeiaaDoorAtEachIn
import Derived.Test.YtbldognffppeiaaDoorAtEach2
namespace Go.Proofs.YtbldognffppeiaaDoor
open Go.RowKit Quo
set_option linter.unusedSimpArgs false
set_option linter.unusedVariables false
/-- What stands while nothing is written from b on but into the reader's block. -/
structure Stable (b : Nat) (F : World → Prop) : Prop where
  kept : ∀ {W W' : World} {g : Nat}, g < b → Kept g W W' → F W → F W'
  set : ∀ {W : World} {p : Addr} (u : Value), p.block < b → F W → F (W.setCell p u)
  row : ∀ {W : World} {g : Nat} (cs : Array Value), g < b → F W → F (W.setRow g cs)
theorem stable_true (b : Nat) : Stable b (fun _ => True) := ⟨fun _ _ _ => trivial, fun _ _ _ => trivial, fun _ _ _ => trivial⟩
theorem Stable.and {b : Nat} {F G : World → Prop} (h : Stable b F) (k : Stable b G) : Stable b (fun W => F W ∧ G W) := ⟨fun hg hk x => ⟨h.kept hg hk x.1, k.kept hg hk x.2⟩, fun u hp x => ⟨h.set u hp x.1, k.set u hp x.2⟩, fun cs hg x => ⟨h.row cs hg x.1, k.row cs hg x.2⟩⟩
theorem stable_own {α : Type} (b : Nat) (P : Option (α × List UInt8)) (len : α → Nat) (e : TypeId) (s : Nat) (v : Value) (n : Nat) (cs : α → List Value) : Stable b (fun W => ∀ p, P = some p → n = len p.1 ∧ W.ownsRow b e s v n (cs p.1)) :=
  ⟨fun hg hk h p e => ⟨(h p e).1, own_keptK (h p e).2 hg hk⟩, fun u hp h p e => ⟨(h p e).1, own_set (h p e).2 hp u⟩, fun cs hg h p e => ⟨(h p e).1, own_row (h p e).2 hg cs⟩⟩
theorem insRow_kept {W W' : World} {b g : Nat} {v : Value} {n : Nat} {l : List (ByteArray × List ByteArray)} (h : InsRow W b v n l) (hg : g < b) (hk : Kept g W W') : InsRow W' b v n l := by
  obtain ⟨RI, h1, h2, h3⟩ := h
  exact ⟨RI, h1, own_keptK h2 hg hk, recs_kept h3 hg hk⟩
theorem insRow_weaken {W : World} {b b' : Nat} {v : Value} {n : Nat} {l : List (ByteArray × List ByteArray)} (h : InsRow W b v n l) (hb : b' ≤ b) : InsRow W b' v n l := by
  obtain ⟨RI, h1, h2, h3⟩ := h
  exact ⟨RI, h1, own_weaken h2 hb, recs_weaken h3 hb⟩
theorem stable_ins (b : Nat) (P : Option (List (ByteArray × List ByteArray) × List UInt8)) (v : Value) (n : Nat) : Stable b (fun W => ∀ p, P = some p → n = p.1.length ∧ InsRow W b v n p.1) :=
  ⟨fun hg hk h p e => ⟨(h p e).1, insRow_kept (h p e).2 hg hk⟩, fun u hp h p e => ⟨(h p e).1, by obtain ⟨RI, h1, h2, h3⟩ := (h p e).2; exact ⟨RI, h1, own_set h2 hp u, recs_set h3 hp u⟩⟩, fun cs hg h p e => ⟨(h p e).1, by obtain ⟨RI, h1, h2, h3⟩ := (h p e).2; exact ⟨RI, h1, own_row h2 hg cs, recs_row h3 hg cs⟩⟩⟩
theorem row_forms {W : World} {b : Nat} {e : TypeId} {s : Nat} {A : Option Addr} {n c : Nat} {xs : List Value} (hr : W.ownsRow b e s (.slice A n c) n xs) : n ≤ c ∧ c ≤ maxLen ∧ (A = none → n = 0 ∧ c = 0) := by
  obtain ⟨A', c', e, q1, q2, q3, _⟩ := row_form hr
  injection e with e1 e2 e3
  subst e1 e3
  exact ⟨q1, q2, q3⟩
theorem insRow_at {W : World} {b : Nat} {A : Option Addr} {n c : Nat} {l : List (ByteArray × List ByteArray)} (hn : n = l.length) (h : InsRow W b (.slice A n c) n l) : InsAt W A l := fun j x hj => by
  obtain ⟨RI, h1, h2, h3⟩ := h
  have hjl := (List.getElem?_eq_some_iff.1 hj).1
  obtain ⟨An, cn, hr, ho⟩ := h3 j x hj
  have hf := row_forms ho
  obtain ⟨g, cap, e, _, _⟩ := h2.form (by omega)
  injection e with e1 e2 e3
  subst e1 e3
  have hc := recCells_at RI j _ hr
  exact ⟨g, 0, An, cn, rfl, by rw [Nat.zero_add]; exact (h2.cellAt (j * 2) (by omega)).trans hc.1, by rw [Nat.zero_add]; exact (h2.cellAt (j * 2 + 1) (by omega)).trans hc.2, hf.1, hf.2.1, owned_strs2 rfl ho, hf.2.2⟩
theorem insRow_forms {W : World} {b : Nat} {A : Option Addr} {n c : Nat} {l : List (ByteArray × List ByteArray)} (h : InsRow W b (.slice A n c) n l) : n ≤ c ∧ c ≤ maxLen := by
  obtain ⟨RI, h1, h2, h3⟩ := h
  exact ⟨(row_forms h2).1, (row_forms h2).2.1⟩
theorem rdD_chain (st : Option (List UInt8)) {s0 s1 s2 s3 s4 s5 s6 s7 t0 t1 t2 t3 t4 t5 t6 : Option (List UInt8)} {P0 : Option (List (ByteArray × ByteArray × ByteArray) × List UInt8)} {P1 : Option (List (ByteArray × List ByteArray) × List UInt8)} {P2 : Option (List ByteArray × List UInt8)} {P3 : Option (ByteArray × List UInt8)} {P4 : Option (ByteArray × List UInt8)} {P5 : Option (List ByteArray × List UInt8)} {P6 : Option (List (ByteArray × ByteArray) × List UInt8)} (e0 : st.bind (eat [68, 101, 114, 105, 118, 101, 40]) = s0) (f0 : s0.bind (eachR rdOut) = P0) (g0 : P0.map (·.2) = t0) (e1 : t0.bind (eat [44]) = s1) (f1 : s1.bind (eachR rdIn) = P1) (g1 : P1.map (·.2) = t1) (e2 : t1.bind (eat [44]) = s2) (f2 : s2.bind (eachR rdS) = P2) (g2 : P2.map (·.2) = t2) (e3 : t2.bind (eat [44]) = s3) (f3 : s3.bind rdS = P3) (g3 : P3.map (·.2) = t3) (e4 : t3.bind (eat [44]) = s4) (f4 : s4.bind rdS = P4) (g4 : P4.map (·.2) = t4) (e5 : t4.bind (eat [44]) = s5) (f5 : s5.bind (eachR rdS) = P5) (g5 : P5.map (·.2) = t5) (e6 : t5.bind (eat [44]) = s6) (f6 : s6.bind (eachR rdEnv) = P6) (g6 : P6.map (·.2) = t6) (e7 : t6.bind (eat [41]) = s7) : (st.bind rdD).map (·.2) = s7 ∧ ∀ p, st.bind rdD = some p → ∃ p0 p1 p2 p3 p4 p5 p6, P0 = some p0 ∧ P1 = some p1 ∧ P2 = some p2 ∧ P3 = some p3 ∧ P4 = some p4 ∧ P5 = some p5 ∧ P6 = some p6 ∧ p.1 = ⟨p0.1, p1.1, p2.1, p3.1, p4.1, p5.1, p6.1⟩ := by
  cases st with
  | none =>
    subst e0
    subst f0
    subst g0
    subst e1
    subst f1
    subst g1
    subst e2
    subst f2
    subst g2
    subst e3
    subst f3
    subst g3
    subst e4
    subst f4
    subst g4
    subst e5
    subst f5
    subst g5
    subst e6
    subst f6
    subst g6
    subst e7
    exact ⟨rfl, fun p e => by cases e⟩
  | some l =>
    have hrd : (some l).bind rdD = rdD l := rfl
    rw [hrd]
    unfold rdD
    change eat [68, 101, 114, 105, 118, 101, 40] l = s0 at e0
    cases hx0 : eat [68, 101, 114, 105, 118, 101, 40] l with
    | none =>
      rw [hx0] at e0
      subst e0
      subst f0
      subst g0
      subst e1
      subst f1
      subst g1
      subst e2
      subst f2
      subst g2
      subst e3
      subst f3
      subst g3
      subst e4
      subst f4
      subst g4
      subst e5
      subst f5
      subst g5
      subst e6
      subst f6
      subst g6
      subst e7
      exact ⟨rfl, fun p e => by cases e⟩
    | some l0 =>
      rw [hx0] at e0
      subst e0
      change (eachR rdOut) l0 = P0 at f0
      simp only [Option.bind_some]
      cases hy0 : (eachR rdOut) l0 with
      | none =>
        rw [hy0] at f0
        subst f0
        subst g0
        subst e1
        subst f1
        subst g1
        subst e2
        subst f2
        subst g2
        subst e3
        subst f3
        subst g3
        subst e4
        subst f4
        subst g4
        subst e5
        subst f5
        subst g5
        subst e6
        subst f6
        subst g6
        subst e7
        exact ⟨rfl, fun p e => by cases e⟩
      | some p0 =>
        rw [hy0] at f0
        subst f0
        subst g0
        simp only [Option.bind_some]
        change eat [44] p0.2 = s1 at e1
        cases hx1 : eat [44] p0.2 with
        | none =>
          rw [hx1] at e1
          subst e1
          subst f1
          subst g1
          subst e2
          subst f2
          subst g2
          subst e3
          subst f3
          subst g3
          subst e4
          subst f4
          subst g4
          subst e5
          subst f5
          subst g5
          subst e6
          subst f6
          subst g6
          subst e7
          exact ⟨rfl, fun p e => by cases e⟩
        | some l1 =>
          rw [hx1] at e1
          subst e1
          change (eachR rdIn) l1 = P1 at f1
          simp only [Option.bind_some]
          cases hy1 : (eachR rdIn) l1 with
          | none =>
            rw [hy1] at f1
            subst f1
            subst g1
            subst e2
            subst f2
            subst g2
            subst e3
            subst f3
            subst g3
            subst e4
            subst f4
            subst g4
            subst e5
            subst f5
            subst g5
            subst e6
            subst f6
            subst g6
            subst e7
            exact ⟨rfl, fun p e => by cases e⟩
          | some p1 =>
            rw [hy1] at f1
            subst f1
            subst g1
            simp only [Option.bind_some]
            change eat [44] p1.2 = s2 at e2
            cases hx2 : eat [44] p1.2 with
            | none =>
              rw [hx2] at e2
              subst e2
              subst f2
              subst g2
              subst e3
              subst f3
              subst g3
              subst e4
              subst f4
              subst g4
              subst e5
              subst f5
              subst g5
              subst e6
              subst f6
              subst g6
              subst e7
              exact ⟨rfl, fun p e => by cases e⟩
            | some l2 =>
              rw [hx2] at e2
              subst e2
              change (eachR rdS) l2 = P2 at f2
              simp only [Option.bind_some]
              cases hy2 : (eachR rdS) l2 with
              | none =>
                rw [hy2] at f2
                subst f2
                subst g2
                subst e3
                subst f3
                subst g3
                subst e4
                subst f4
                subst g4
                subst e5
                subst f5
                subst g5
                subst e6
                subst f6
                subst g6
                subst e7
                exact ⟨rfl, fun p e => by cases e⟩
              | some p2 =>
                rw [hy2] at f2
                subst f2
                subst g2
                simp only [Option.bind_some]
                change eat [44] p2.2 = s3 at e3
                cases hx3 : eat [44] p2.2 with
                | none =>
                  rw [hx3] at e3
                  subst e3
                  subst f3
                  subst g3
                  subst e4
                  subst f4
                  subst g4
                  subst e5
                  subst f5
                  subst g5
                  subst e6
                  subst f6
                  subst g6
                  subst e7
                  exact ⟨rfl, fun p e => by cases e⟩
                | some l3 =>
                  rw [hx3] at e3
                  subst e3
                  change rdS l3 = P3 at f3
                  simp only [Option.bind_some]
                  cases hy3 : rdS l3 with
                  | none =>
                    rw [hy3] at f3
                    subst f3
                    subst g3
                    subst e4
                    subst f4
                    subst g4
                    subst e5
                    subst f5
                    subst g5
                    subst e6
                    subst f6
                    subst g6
                    subst e7
                    exact ⟨rfl, fun p e => by cases e⟩
                  | some p3 =>
                    rw [hy3] at f3
                    subst f3
                    subst g3
                    simp only [Option.bind_some]
                    change eat [44] p3.2 = s4 at e4
                    cases hx4 : eat [44] p3.2 with
                    | none =>
                      rw [hx4] at e4
                      subst e4
                      subst f4
                      subst g4
                      subst e5
                      subst f5
                      subst g5
                      subst e6
                      subst f6
                      subst g6
                      subst e7
                      exact ⟨rfl, fun p e => by cases e⟩
                    | some l4 =>
                      rw [hx4] at e4
                      subst e4
                      change rdS l4 = P4 at f4
                      simp only [Option.bind_some]
                      cases hy4 : rdS l4 with
                      | none =>
                        rw [hy4] at f4
                        subst f4
                        subst g4
                        subst e5
                        subst f5
                        subst g5
                        subst e6
                        subst f6
                        subst g6
                        subst e7
                        exact ⟨rfl, fun p e => by cases e⟩
                      | some p4 =>
                        rw [hy4] at f4
                        subst f4
                        subst g4
                        simp only [Option.bind_some]
                        change eat [44] p4.2 = s5 at e5
                        cases hx5 : eat [44] p4.2 with
                        | none =>
                          rw [hx5] at e5
                          subst e5
                          subst f5
                          subst g5
                          subst e6
                          subst f6
                          subst g6
                          subst e7
                          exact ⟨rfl, fun p e => by cases e⟩
                        | some l5 =>
                          rw [hx5] at e5
                          subst e5
                          change (eachR rdS) l5 = P5 at f5
                          simp only [Option.bind_some]
                          cases hy5 : (eachR rdS) l5 with
                          | none =>
                            rw [hy5] at f5
                            subst f5
                            subst g5
                            subst e6
                            subst f6
                            subst g6
                            subst e7
                            exact ⟨rfl, fun p e => by cases e⟩
                          | some p5 =>
                            rw [hy5] at f5
                            subst f5
                            subst g5
                            simp only [Option.bind_some]
                            change eat [44] p5.2 = s6 at e6
                            cases hx6 : eat [44] p5.2 with
                            | none =>
                              rw [hx6] at e6
                              subst e6
                              subst f6
                              subst g6
                              subst e7
                              exact ⟨rfl, fun p e => by cases e⟩
                            | some l6 =>
                              rw [hx6] at e6
                              subst e6
                              change (eachR rdEnv) l6 = P6 at f6
                              simp only [Option.bind_some]
                              cases hy6 : (eachR rdEnv) l6 with
                              | none =>
                                rw [hy6] at f6
                                subst f6
                                subst g6
                                subst e7
                                exact ⟨rfl, fun p e => by cases e⟩
                              | some p6 =>
                                rw [hy6] at f6
                                subst f6
                                subst g6
                                simp only [Option.bind_some]
                                change eat [41] p6.2 = s7 at e7
                                cases hx7 : eat [41] p6.2 with
                                | none =>
                                  rw [hx7] at e7
                                  subst e7
                                  exact ⟨rfl, fun p e => by cases e⟩
                                | some l7 =>
                                  rw [hx7] at e7
                                  subst e7
                                  exact ⟨rfl, fun p e => by injection e with e; subst e; exact ⟨p0, p1, p2, p3, p4, p5, p6, rfl, rfl, rfl, rfl, rfl, rfl, rfl, rfl⟩⟩
set_option maxHeartbeats 8000000 in
set_option maxRecDepth 1000000 in
theorem deriv_any (g : Nat) (st : Option (List UInt8)) (w : World) (hg : 1 < g) (hT : Tabs w) (hl : Lim st) (h : RdSt w g st) : Calls Tryd.prog 44 #[.pointer (some ⟨g, 0, none⟩)] w fun e w' => ∃ A0 n0 c0 A1 n1 c1 A2 n2 c2 q3 q4 A5 n5 c5 A6 n6 c6, e = .returned (.agg #[.slice A0 n0 c0, .slice A1 n1 c1, .slice A2 n2 c2, .string q3, .string q4, .slice A5 n5 c5, .slice A6 n6 c6]) ∧ RdSt w' g ((st.bind rdD).map (·.2)) ∧ Kept g w w' ∧ (∀ p, st.bind rdD = some p → #[.slice A0 n0 c0, .slice A1 n1 c1, .slice A2 n2 c2, .string q3, .string q4, .slice A5 n5 c5, .slice A6 n6 c6] = drvCells p.1 ⟨A0, A1, A2, A5, A6, c0, c1, c2, c5, c6⟩ ∧ ∀ b, b ≤ w.heap.size → DrvAt (wipe b w') p.1 ⟨A0, A1, A2, A5, A6, c0, c1, c2, c5, c6⟩) := by
  obtain ⟨gd, hgd⟩ : ∃ gd, Hid (w.heap.size = gd) := ⟨_, rfl⟩
  have hlt : Hid (g < gd) := by rw [← hgd.out]; exact h.lt
  have hne : Hid (gd ≠ g) := by have := hlt.out; rw [Hid]; omega
  have hg1 : Hid (g < gd + 1) := by have := hlt.out; rw [Hid]; omega
  obtain ⟨s0, e0⟩ : ∃ s0, Hid (st.bind (eat [68, 101, 114, 105, 118, 101, 40]) = s0) := ⟨_, rfl⟩
  obtain ⟨P0, f0⟩ : ∃ P0, Hid (s0.bind (eachR rdOut) = P0) := ⟨_, rfl⟩
  obtain ⟨t0, k0⟩ : ∃ t0, Hid (P0.map (·.2) = t0) := ⟨_, rfl⟩
  obtain ⟨s1, e1⟩ : ∃ s1, Hid (t0.bind (eat [44]) = s1) := ⟨_, rfl⟩
  obtain ⟨P1, f1⟩ : ∃ P1, Hid (s1.bind (eachR rdIn) = P1) := ⟨_, rfl⟩
  obtain ⟨t1, k1⟩ : ∃ t1, Hid (P1.map (·.2) = t1) := ⟨_, rfl⟩
  obtain ⟨s2, e2⟩ : ∃ s2, Hid (t1.bind (eat [44]) = s2) := ⟨_, rfl⟩
  obtain ⟨P2, f2⟩ : ∃ P2, Hid (s2.bind (eachR rdS) = P2) := ⟨_, rfl⟩
  obtain ⟨t2, k2⟩ : ∃ t2, Hid (P2.map (·.2) = t2) := ⟨_, rfl⟩
  obtain ⟨s3, e3⟩ : ∃ s3, Hid (t2.bind (eat [44]) = s3) := ⟨_, rfl⟩
  obtain ⟨P3, f3⟩ : ∃ P3, Hid (s3.bind rdS = P3) := ⟨_, rfl⟩
  obtain ⟨t3, k3⟩ : ∃ t3, Hid (P3.map (·.2) = t3) := ⟨_, rfl⟩
  obtain ⟨s4, e4⟩ : ∃ s4, Hid (t3.bind (eat [44]) = s4) := ⟨_, rfl⟩
  obtain ⟨P4, f4⟩ : ∃ P4, Hid (s4.bind rdS = P4) := ⟨_, rfl⟩
  obtain ⟨t4, k4⟩ : ∃ t4, Hid (P4.map (·.2) = t4) := ⟨_, rfl⟩
  obtain ⟨s5, e5⟩ : ∃ s5, Hid (t4.bind (eat [44]) = s5) := ⟨_, rfl⟩
  obtain ⟨P5, f5⟩ : ∃ P5, Hid (s5.bind (eachR rdS) = P5) := ⟨_, rfl⟩
  obtain ⟨t5, k5⟩ : ∃ t5, Hid (P5.map (·.2) = t5) := ⟨_, rfl⟩
  obtain ⟨s6, e6⟩ : ∃ s6, Hid (t5.bind (eat [44]) = s6) := ⟨_, rfl⟩
  obtain ⟨P6, f6⟩ : ∃ P6, Hid (s6.bind (eachR rdEnv) = P6) := ⟨_, rfl⟩
  obtain ⟨t6, k6⟩ : ∃ t6, Hid (P6.map (·.2) = t6) := ⟨_, rfl⟩
  obtain ⟨s7, e7⟩ : ∃ s7, Hid (t6.bind (eat [41]) = s7) := ⟨_, rfl⟩
  have l0 : Hid (Lim s0) := by rw [← e0.out]; exact hl.eat [68, 101, 114, 105, 118, 101, 40]
  have m0 : Hid (Lim t0) := by rw [← k0.out, ← f0.out]; exact l0.out.rd (eachR_reads rdOut_reads outD_head)
  have l1 : Hid (Lim s1) := by rw [← e1.out]; exact m0.out.eat [44]
  have m1 : Hid (Lim t1) := by rw [← k1.out, ← f1.out]; exact l1.out.rd (eachR_reads rdIn_reads inD_head)
  have l2 : Hid (Lim s2) := by rw [← e2.out]; exact m1.out.eat [44]
  have m2 : Hid (Lim t2) := by rw [← k2.out, ← f2.out]; exact l2.out.rd eachS_reads
  have l3 : Hid (Lim s3) := by rw [← e3.out]; exact m2.out.eat [44]
  have m3 : Hid (Lim t3) := by rw [← k3.out, ← f3.out]; exact l3.out.rd rdS_reads
  have l4 : Hid (Lim s4) := by rw [← e4.out]; exact m3.out.eat [44]
  have m4 : Hid (Lim t4) := by rw [← k4.out, ← f4.out]; exact l4.out.rd rdS_reads
  have l5 : Hid (Lim s5) := by rw [← e5.out]; exact m4.out.eat [44]
  have m5 : Hid (Lim t5) := by rw [← k5.out, ← f5.out]; exact l5.out.rd eachS_reads
  have l6 : Hid (Lim s6) := by rw [← e6.out]; exact m5.out.eat [44]
  have m6 : Hid (Lim t6) := by rw [← k6.out, ← f6.out]; exact l6.out.rd (eachR_reads rdEnv_reads envD_head)
  have HCH := Lib.hid (rdD_chain st e0.out f0.out k0.out e1.out f1.out k1.out e2.out f2.out k2.out e3.out f3.out k3.out e4.out f4.out k4.out e5.out f5.out k5.out e6.out f6.out k6.out e7.out)
  have HK : Hid (Kept g w (w.alloc (.cells #[.slice none 0 0, .slice none 0 0, .slice none 0 0, .string ⟨#[]⟩, .string ⟨#[]⟩, .slice none 0 0, .slice none 0 0] 29))) := (Kept.refl g w).alloc _
  have HB : Hid (Blk (w.alloc (.cells #[.slice none 0 0, .slice none 0 0, .slice none 0 0, .string ⟨#[]⟩, .string ⟨#[]⟩, .slice none 0 0, .slice none 0 0] 29)) gd 29 #[.slice none 0 0, .slice none 0 0, .slice none 0 0, .string ⟨#[]⟩, .string ⟨#[]⟩, .slice none 0 0, .slice none 0 0]) := by rw [← hgd.out]; exact Blk.new w 29 _
  have HR : Hid (RdSt (w.alloc (.cells #[.slice none 0 0, .slice none 0 0, .slice none 0 0, .string ⟨#[]⟩, .string ⟨#[]⟩, .slice none 0 0, .slice none 0 0] 29)) g st) := h.kept h.lt ((Below.refl _ _).alloc (Nat.le_refl _) _)
  have HT := Lib.hid hT
  clear h hT hl
  go_enter Tryd.func44, Tryd.ntmps44
  go_upto_region 1 with (fail)
  rw [hgd.out]
  generalize w.alloc (.cells #[.slice none 0 0, .slice none 0 0, .slice none 0 0, .string ⟨#[]⟩, .string ⟨#[]⟩, .slice none 0 0, .slice none 0 0] 29) = W0 at *
  have hS := stable_true (gd + 1)
  have HF : Hid ((fun _ : World => True) W0) := trivial
  have HC := Lib.hid (take_any [68, 101, 114, 105, 118, 101, 40] g st W0 HR.out)
  rw [e0.out] at HC
  go_upto_region 2 with (first
    | (go_at_call 57; refine HC.out.mono ?_; rintro e u0 ⟨rfl, hr, hk⟩; have HR' := Lib.hid hr; have HK' := Lib.hid (HK.out.trans hk); have HB' := Lib.hid (HB.out.keptK hk hne.out); have HF' := Lib.hid (hS.kept hg1.out hk HF.out); clear hr hk)
    | fail)
  clear HC HR HK HB HF
  have hb0 := Lib.hid HB'.out.lt
  have HD := Lib.hid (eachO_any g s0 u0 hg (tabs_kept HT.out hg HK'.out) l0.out HR'.out)
  rw [f0.out, k0.out] at HD
  go_upto_region 3 with (first
    | (go_at_call 58; refine HD.out.mono ?_; rintro e v0 ⟨A0, n0, c0, rfl, hr, hk, hq⟩; have HR := Lib.hid hr; have HQ := Lib.hid hq; have HK := Lib.hid (HK'.out.trans hk); have HB := Lib.hid (HB'.out.keptK hk hne.out); have HF := Lib.hid (hS.kept hg1.out hk HF'.out); have y1 : v0.cell? ⟨gd, 0, none⟩ = some (.slice none 0 0) := HB.out.cell 0; have y2 : v0.frozen? ⟨gd, 0, none⟩ = false := HB.out.frozen 0; clear hr hk hq)
    | fail)
  clear HD HR' HK' HB' HF' y1 y2
  have HB2 : Hid (Blk (v0.setCell ⟨gd, 0, none⟩ (.slice A0 n0 c0)) gd 29 #[.slice A0 n0 c0, .slice none 0 0, .slice none 0 0, .string ⟨#[]⟩, .string ⟨#[]⟩, .slice none 0 0, .slice none 0 0]) := HB.out.set_ 0 _
  have HR2 : Hid (RdSt (v0.setCell ⟨gd, 0, none⟩ (.slice A0 n0 c0)) g t0) := HR.out.far (show g ≠ gd from fun e => hne.out e.symm) _
  have HK2 : Hid (Kept g w (v0.setCell ⟨gd, 0, none⟩ (.slice A0 n0 c0))) := HK.out.belowB ((Below.refl w.heap.size v0).setCell (p := ⟨gd, 0, none⟩) (by rw [hgd.out]; exact Nat.le_refl _) _) (Nat.le_refl _)
  have hS1 : Stable (gd + 1) (fun W : World => ∀ p, P0 = some p → n0 = p.1.length ∧ W.ownsRow (gd + 1) 49 3 (.slice A0 n0 c0) n0 (outsCells p.1)) := stable_own (gd + 1) P0 List.length 49 3 (.slice A0 n0 c0) n0 outsCells
  have HF1 : Hid ((fun W : World => ∀ p, P0 = some p → n0 = p.1.length ∧ W.ownsRow (gd + 1) 49 3 (.slice A0 n0 c0) n0 (outsCells p.1)) v0) := fun p e => ⟨(HQ.out p e).1, own_weaken (HQ.out p e).2 hb0.out⟩
  have hS2 := hS1.and hS
  have HF2 := Lib.hid (hS2.set (p := ⟨gd, 0, none⟩) (.slice A0 n0 c0) (Nat.lt_succ_self _) ⟨HF1.out, HF.out⟩)
  clear HF1 hS1 HQ
  clear HB HR HK HF hS
  have HB := HB2
  have HR := HR2
  have HK := HK2
  have HF := HF2
  have hS := hS2
  clear HB2 HR2 HK2 HF2 hS2
  generalize v0.setCell ⟨gd, 0, none⟩ (.slice A0 n0 c0) = X0 at *
  have HC := Lib.hid (take_any [44] g t0 X0 HR.out)
  rw [e1.out] at HC
  go_upto_region 4 with (first
    | (go_at_call 57; refine HC.out.mono ?_; rintro e u1 ⟨rfl, hr, hk⟩; have HR' := Lib.hid hr; have HK' := Lib.hid (HK.out.trans hk); have HB' := Lib.hid (HB.out.keptK hk hne.out); have HF' := Lib.hid (hS.kept hg1.out hk HF.out); clear hr hk)
    | fail)
  clear HC HR HK HB HF
  have hb1 := Lib.hid HB'.out.lt
  have HD := Lib.hid (eachI_any g s1 u1 hg (tabs_kept HT.out hg HK'.out) l1.out HR'.out)
  rw [f1.out, k1.out] at HD
  go_upto_region 5 with (first
    | (go_at_call 60; refine HD.out.mono ?_; rintro e v1 ⟨A1, n1, c1, rfl, hr, hk, hq⟩; have HR := Lib.hid hr; have HQ := Lib.hid hq; have HK := Lib.hid (HK'.out.trans hk); have HB := Lib.hid (HB'.out.keptK hk hne.out); have HF := Lib.hid (hS.kept hg1.out hk HF'.out); have y1 : v1.cell? ⟨gd, 1, none⟩ = some (.slice none 0 0) := HB.out.cell 1; have y2 : v1.frozen? ⟨gd, 1, none⟩ = false := HB.out.frozen 1; clear hr hk hq)
    | fail)
  clear HD HR' HK' HB' HF' y1 y2
  have HB2 : Hid (Blk (v1.setCell ⟨gd, 1, none⟩ (.slice A1 n1 c1)) gd 29 #[.slice A0 n0 c0, .slice A1 n1 c1, .slice none 0 0, .string ⟨#[]⟩, .string ⟨#[]⟩, .slice none 0 0, .slice none 0 0]) := HB.out.set_ 1 _
  have HR2 : Hid (RdSt (v1.setCell ⟨gd, 1, none⟩ (.slice A1 n1 c1)) g t1) := HR.out.far (show g ≠ gd from fun e => hne.out e.symm) _
  have HK2 : Hid (Kept g w (v1.setCell ⟨gd, 1, none⟩ (.slice A1 n1 c1))) := HK.out.belowB ((Below.refl w.heap.size v1).setCell (p := ⟨gd, 1, none⟩) (by rw [hgd.out]; exact Nat.le_refl _) _) (Nat.le_refl _)
  have hS1 : Stable (gd + 1) (fun W : World => ∀ p, P1 = some p → n1 = p.1.length ∧ InsRow W (gd + 1) (.slice A1 n1 c1) n1 p.1) := stable_ins (gd + 1) P1 (.slice A1 n1 c1) n1
  have HF1 : Hid ((fun W : World => ∀ p, P1 = some p → n1 = p.1.length ∧ InsRow W (gd + 1) (.slice A1 n1 c1) n1 p.1) v1) := fun p e => ⟨(HQ.out p e).1, insRow_weaken (HQ.out p e).2 hb1.out⟩
  have hS2 := hS1.and hS
  have HF2 := Lib.hid (hS2.set (p := ⟨gd, 1, none⟩) (.slice A1 n1 c1) (Nat.lt_succ_self _) ⟨HF1.out, HF.out⟩)
  clear HF1 hS1 HQ
  clear HB HR HK HF hS
  have HB := HB2
  have HR := HR2
  have HK := HK2
  have HF := HF2
  have hS := hS2
  clear HB2 HR2 HK2 HF2 hS2
  generalize v1.setCell ⟨gd, 1, none⟩ (.slice A1 n1 c1) = X1 at *
  have HC := Lib.hid (take_any [44] g t1 X1 HR.out)
  rw [e2.out] at HC
  go_upto_region 6 with (first
    | (go_at_call 57; refine HC.out.mono ?_; rintro e u2 ⟨rfl, hr, hk⟩; have HR' := Lib.hid hr; have HK' := Lib.hid (HK.out.trans hk); have HB' := Lib.hid (HB.out.keptK hk hne.out); have HF' := Lib.hid (hS.kept hg1.out hk HF.out); clear hr hk)
    | fail)
  clear HC HR HK HB HF
  have hb2 := Lib.hid HB'.out.lt
  have HD := Lib.hid (eachS_any g s2 u2 hg (tabs_kept HT.out hg HK'.out) l2.out HR'.out)
  rw [f2.out, k2.out] at HD
  go_upto_region 7 with (first
    | (go_at_call 62; refine HD.out.mono ?_; rintro e v2 ⟨A2, n2, c2, rfl, hr, hk, hq⟩; have HR := Lib.hid hr; have HQ := Lib.hid hq; have HK := Lib.hid (HK'.out.trans hk); have HB := Lib.hid (HB'.out.keptK hk hne.out); have HF := Lib.hid (hS.kept hg1.out hk HF'.out); have y1 : v2.cell? ⟨gd, 2, none⟩ = some (.slice none 0 0) := HB.out.cell 2; have y2 : v2.frozen? ⟨gd, 2, none⟩ = false := HB.out.frozen 2; clear hr hk hq)
    | fail)
  clear HD HR' HK' HB' HF' y1 y2
  have HB2 : Hid (Blk (v2.setCell ⟨gd, 2, none⟩ (.slice A2 n2 c2)) gd 29 #[.slice A0 n0 c0, .slice A1 n1 c1, .slice A2 n2 c2, .string ⟨#[]⟩, .string ⟨#[]⟩, .slice none 0 0, .slice none 0 0]) := HB.out.set_ 2 _
  have HR2 : Hid (RdSt (v2.setCell ⟨gd, 2, none⟩ (.slice A2 n2 c2)) g t2) := HR.out.far (show g ≠ gd from fun e => hne.out e.symm) _
  have HK2 : Hid (Kept g w (v2.setCell ⟨gd, 2, none⟩ (.slice A2 n2 c2))) := HK.out.belowB ((Below.refl w.heap.size v2).setCell (p := ⟨gd, 2, none⟩) (by rw [hgd.out]; exact Nat.le_refl _) _) (Nat.le_refl _)
  have hS1 : Stable (gd + 1) (fun W : World => ∀ p, P2 = some p → n2 = p.1.length ∧ W.ownsRow (gd + 1) 9 1 (.slice A2 n2 c2) n2 (p.1.map Value.string)) := stable_own (gd + 1) P2 List.length 9 1 (.slice A2 n2 c2) n2 (fun l => l.map Value.string)
  have HF1 : Hid ((fun W : World => ∀ p, P2 = some p → n2 = p.1.length ∧ W.ownsRow (gd + 1) 9 1 (.slice A2 n2 c2) n2 (p.1.map Value.string)) v2) := fun p e => ⟨(HQ.out p e).1, own_weaken (HQ.out p e).2 hb2.out⟩
  have hS2 := hS1.and hS
  have HF2 := Lib.hid (hS2.set (p := ⟨gd, 2, none⟩) (.slice A2 n2 c2) (Nat.lt_succ_self _) ⟨HF1.out, HF.out⟩)
  clear HF1 hS1 HQ
  clear HB HR HK HF hS
  have HB := HB2
  have HR := HR2
  have HK := HK2
  have HF := HF2
  have hS := hS2
  clear HB2 HR2 HK2 HF2 hS2
  generalize v2.setCell ⟨gd, 2, none⟩ (.slice A2 n2 c2) = X2 at *
  have HC := Lib.hid (take_any [44] g t2 X2 HR.out)
  rw [e3.out] at HC
  go_upto_region 8 with (first
    | (go_at_call 57; refine HC.out.mono ?_; rintro e u3 ⟨rfl, hr, hk⟩; have HR' := Lib.hid hr; have HK' := Lib.hid (HK.out.trans hk); have HB' := Lib.hid (HB.out.keptK hk hne.out); have HF' := Lib.hid (hS.kept hg1.out hk HF.out); clear hr hk)
    | fail)
  clear HC HR HK HB HF
  have hb3 := Lib.hid HB'.out.lt
  have HD := Lib.hid (quoted_any g s3 u3 hg (tabs_kept HT.out hg HK'.out) l3.out HR'.out)
  rw [f3.out, k3.out] at HD
  go_upto_region 9 with (first
    | (go_at_call 63; refine HD.out.mono ?_; rintro e v3 ⟨q3, rfl, hr, hq, hk⟩; have HR := Lib.hid hr; have HQ3 := Lib.hid hq; have HK := Lib.hid (HK'.out.trans hk); have HB := Lib.hid (HB'.out.keptK hk hne.out); have HF := Lib.hid (hS.kept hg1.out hk HF'.out); have y1 : v3.cell? ⟨gd, 3, none⟩ = some (.string ⟨#[]⟩) := HB.out.cell 3; have y2 : v3.frozen? ⟨gd, 3, none⟩ = false := HB.out.frozen 3; clear hr hk hq)
    | fail)
  clear HD HR' HK' HB' HF' y1 y2
  have HB2 : Hid (Blk (v3.setCell ⟨gd, 3, none⟩ (.string q3)) gd 29 #[.slice A0 n0 c0, .slice A1 n1 c1, .slice A2 n2 c2, .string q3, .string ⟨#[]⟩, .slice none 0 0, .slice none 0 0]) := HB.out.set_ 3 _
  have HR2 : Hid (RdSt (v3.setCell ⟨gd, 3, none⟩ (.string q3)) g t3) := HR.out.far (show g ≠ gd from fun e => hne.out e.symm) _
  have HK2 : Hid (Kept g w (v3.setCell ⟨gd, 3, none⟩ (.string q3))) := HK.out.belowB ((Below.refl w.heap.size v3).setCell (p := ⟨gd, 3, none⟩) (by rw [hgd.out]; exact Nat.le_refl _) _) (Nat.le_refl _)
  have HF2 := Lib.hid (hS.set (p := ⟨gd, 3, none⟩) (.string q3) (Nat.lt_succ_self _) HF.out)
  have hS2 := hS
  clear HB HR HK HF hS
  have HB := HB2
  have HR := HR2
  have HK := HK2
  have HF := HF2
  have hS := hS2
  clear HB2 HR2 HK2 HF2 hS2
  generalize v3.setCell ⟨gd, 3, none⟩ (.string q3) = X3 at *
  have HC := Lib.hid (take_any [44] g t3 X3 HR.out)
  rw [e4.out] at HC
  go_upto_region 10 with (first
    | (go_at_call 57; refine HC.out.mono ?_; rintro e u4 ⟨rfl, hr, hk⟩; have HR' := Lib.hid hr; have HK' := Lib.hid (HK.out.trans hk); have HB' := Lib.hid (HB.out.keptK hk hne.out); have HF' := Lib.hid (hS.kept hg1.out hk HF.out); clear hr hk)
    | fail)
  clear HC HR HK HB HF
  have hb4 := Lib.hid HB'.out.lt
  have HD := Lib.hid (quoted_any g s4 u4 hg (tabs_kept HT.out hg HK'.out) l4.out HR'.out)
  rw [f4.out, k4.out] at HD
  go_upto_region 11 with (first
    | (go_at_call 63; refine HD.out.mono ?_; rintro e v4 ⟨q4, rfl, hr, hq, hk⟩; have HR := Lib.hid hr; have HQ4 := Lib.hid hq; have HK := Lib.hid (HK'.out.trans hk); have HB := Lib.hid (HB'.out.keptK hk hne.out); have HF := Lib.hid (hS.kept hg1.out hk HF'.out); have y1 : v4.cell? ⟨gd, 4, none⟩ = some (.string ⟨#[]⟩) := HB.out.cell 4; have y2 : v4.frozen? ⟨gd, 4, none⟩ = false := HB.out.frozen 4; clear hr hk hq)
    | fail)
  clear HD HR' HK' HB' HF' y1 y2
  have HB2 : Hid (Blk (v4.setCell ⟨gd, 4, none⟩ (.string q4)) gd 29 #[.slice A0 n0 c0, .slice A1 n1 c1, .slice A2 n2 c2, .string q3, .string q4, .slice none 0 0, .slice none 0 0]) := HB.out.set_ 4 _
  have HR2 : Hid (RdSt (v4.setCell ⟨gd, 4, none⟩ (.string q4)) g t4) := HR.out.far (show g ≠ gd from fun e => hne.out e.symm) _
  have HK2 : Hid (Kept g w (v4.setCell ⟨gd, 4, none⟩ (.string q4))) := HK.out.belowB ((Below.refl w.heap.size v4).setCell (p := ⟨gd, 4, none⟩) (by rw [hgd.out]; exact Nat.le_refl _) _) (Nat.le_refl _)
  have HF2 := Lib.hid (hS.set (p := ⟨gd, 4, none⟩) (.string q4) (Nat.lt_succ_self _) HF.out)
  have hS2 := hS
  clear HB HR HK HF hS
  have HB := HB2
  have HR := HR2
  have HK := HK2
  have HF := HF2
  have hS := hS2
  clear HB2 HR2 HK2 HF2 hS2
  generalize v4.setCell ⟨gd, 4, none⟩ (.string q4) = X4 at *
  have HC := Lib.hid (take_any [44] g t4 X4 HR.out)
  rw [e5.out] at HC
  go_upto_region 12 with (first
    | (go_at_call 57; refine HC.out.mono ?_; rintro e u5 ⟨rfl, hr, hk⟩; have HR' := Lib.hid hr; have HK' := Lib.hid (HK.out.trans hk); have HB' := Lib.hid (HB.out.keptK hk hne.out); have HF' := Lib.hid (hS.kept hg1.out hk HF.out); clear hr hk)
    | fail)
  clear HC HR HK HB HF
  have hb5 := Lib.hid HB'.out.lt
  have HD := Lib.hid (eachS_any g s5 u5 hg (tabs_kept HT.out hg HK'.out) l5.out HR'.out)
  rw [f5.out, k5.out] at HD
  go_upto_region 13 with (first
    | (go_at_call 62; refine HD.out.mono ?_; rintro e v5 ⟨A5, n5, c5, rfl, hr, hk, hq⟩; have HR := Lib.hid hr; have HQ := Lib.hid hq; have HK := Lib.hid (HK'.out.trans hk); have HB := Lib.hid (HB'.out.keptK hk hne.out); have HF := Lib.hid (hS.kept hg1.out hk HF'.out); have y1 : v5.cell? ⟨gd, 5, none⟩ = some (.slice none 0 0) := HB.out.cell 5; have y2 : v5.frozen? ⟨gd, 5, none⟩ = false := HB.out.frozen 5; clear hr hk hq)
    | fail)
  clear HD HR' HK' HB' HF' y1 y2
  have HB2 : Hid (Blk (v5.setCell ⟨gd, 5, none⟩ (.slice A5 n5 c5)) gd 29 #[.slice A0 n0 c0, .slice A1 n1 c1, .slice A2 n2 c2, .string q3, .string q4, .slice A5 n5 c5, .slice none 0 0]) := HB.out.set_ 5 _
  have HR2 : Hid (RdSt (v5.setCell ⟨gd, 5, none⟩ (.slice A5 n5 c5)) g t5) := HR.out.far (show g ≠ gd from fun e => hne.out e.symm) _
  have HK2 : Hid (Kept g w (v5.setCell ⟨gd, 5, none⟩ (.slice A5 n5 c5))) := HK.out.belowB ((Below.refl w.heap.size v5).setCell (p := ⟨gd, 5, none⟩) (by rw [hgd.out]; exact Nat.le_refl _) _) (Nat.le_refl _)
  have hS1 : Stable (gd + 1) (fun W : World => ∀ p, P5 = some p → n5 = p.1.length ∧ W.ownsRow (gd + 1) 9 1 (.slice A5 n5 c5) n5 (p.1.map Value.string)) := stable_own (gd + 1) P5 List.length 9 1 (.slice A5 n5 c5) n5 (fun l => l.map Value.string)
  have HF1 : Hid ((fun W : World => ∀ p, P5 = some p → n5 = p.1.length ∧ W.ownsRow (gd + 1) 9 1 (.slice A5 n5 c5) n5 (p.1.map Value.string)) v5) := fun p e => ⟨(HQ.out p e).1, own_weaken (HQ.out p e).2 hb5.out⟩
  have hS2 := hS1.and hS
  have HF2 := Lib.hid (hS2.set (p := ⟨gd, 5, none⟩) (.slice A5 n5 c5) (Nat.lt_succ_self _) ⟨HF1.out, HF.out⟩)
  clear HF1 hS1 HQ
  clear HB HR HK HF hS
  have HB := HB2
  have HR := HR2
  have HK := HK2
  have HF := HF2
  have hS := hS2
  clear HB2 HR2 HK2 HF2 hS2
  generalize v5.setCell ⟨gd, 5, none⟩ (.slice A5 n5 c5) = X5 at *
  have HC := Lib.hid (take_any [44] g t5 X5 HR.out)
  rw [e6.out] at HC
  go_upto_region 14 with (first
    | (go_at_call 57; refine HC.out.mono ?_; rintro e u6 ⟨rfl, hr, hk⟩; have HR' := Lib.hid hr; have HK' := Lib.hid (HK.out.trans hk); have HB' := Lib.hid (HB.out.keptK hk hne.out); have HF' := Lib.hid (hS.kept hg1.out hk HF.out); clear hr hk)
    | fail)
  clear HC HR HK HB HF
  have hb6 := Lib.hid HB'.out.lt
  have HD := Lib.hid (eachP_any g s6 u6 hg (tabs_kept HT.out hg HK'.out) l6.out HR'.out)
  rw [f6.out, k6.out] at HD
  go_upto_region 15 with (first
    | (go_at_call 64; refine HD.out.mono ?_; rintro e v6 ⟨A6, n6, c6, rfl, hr, hk, hq⟩; have HR := Lib.hid hr; have HQ := Lib.hid hq; have HK := Lib.hid (HK'.out.trans hk); have HB := Lib.hid (HB'.out.keptK hk hne.out); have HF := Lib.hid (hS.kept hg1.out hk HF'.out); have y1 : v6.cell? ⟨gd, 6, none⟩ = some (.slice none 0 0) := HB.out.cell 6; have y2 : v6.frozen? ⟨gd, 6, none⟩ = false := HB.out.frozen 6; clear hr hk hq)
    | fail)
  clear HD HR' HK' HB' HF' y1 y2
  have HB2 : Hid (Blk (v6.setCell ⟨gd, 6, none⟩ (.slice A6 n6 c6)) gd 29 #[.slice A0 n0 c0, .slice A1 n1 c1, .slice A2 n2 c2, .string q3, .string q4, .slice A5 n5 c5, .slice A6 n6 c6]) := HB.out.set_ 6 _
  have HR2 : Hid (RdSt (v6.setCell ⟨gd, 6, none⟩ (.slice A6 n6 c6)) g t6) := HR.out.far (show g ≠ gd from fun e => hne.out e.symm) _
  have HK2 : Hid (Kept g w (v6.setCell ⟨gd, 6, none⟩ (.slice A6 n6 c6))) := HK.out.belowB ((Below.refl w.heap.size v6).setCell (p := ⟨gd, 6, none⟩) (by rw [hgd.out]; exact Nat.le_refl _) _) (Nat.le_refl _)
  have hS1 : Stable (gd + 1) (fun W : World => ∀ p, P6 = some p → n6 = p.1.length ∧ W.ownsRow (gd + 1) 70 2 (.slice A6 n6 c6) n6 (pairsCells p.1)) := stable_own (gd + 1) P6 List.length 70 2 (.slice A6 n6 c6) n6 pairsCells
  have HF1 : Hid ((fun W : World => ∀ p, P6 = some p → n6 = p.1.length ∧ W.ownsRow (gd + 1) 70 2 (.slice A6 n6 c6) n6 (pairsCells p.1)) v6) := fun p e => ⟨(HQ.out p e).1, own_weaken (HQ.out p e).2 hb6.out⟩
  have hS2 := hS1.and hS
  have HF2 := Lib.hid (hS2.set (p := ⟨gd, 6, none⟩) (.slice A6 n6 c6) (Nat.lt_succ_self _) ⟨HF1.out, HF.out⟩)
  clear HF1 hS1 HQ
  clear HB HR HK HF hS
  have HB := HB2
  have HR := HR2
  have HK := HK2
  have HF := HF2
  have hS := hS2
  clear HB2 HR2 HK2 HF2 hS2
  generalize v6.setCell ⟨gd, 6, none⟩ (.slice A6 n6 c6) = X6 at *
  have HC := Lib.hid (take_any [41] g t6 X6 HR.out)
  rw [e7.out] at HC
  go_upto_region 16 with (first
    | (go_at_call 57; refine HC.out.mono ?_; rintro e w7 ⟨rfl, hr, hk⟩; have HR' := Lib.hid hr; have HK' := Lib.hid (HK.out.trans hk); have HB' := Lib.hid (HB.out.keptK hk hne.out); have HF' := Lib.hid (hS.kept hg1.out hk HF.out); clear hr hk)
    | fail)
  clear HC HR HK HB HF
  have hK7 : Hid (w7.heap[gd]? = some (.cells #[.slice A0 n0 c0, .slice A1 n1 c1, .slice A2 n2 c2, .string q3, .string q4, .slice A5 n5 c5, .slice A6 n6 c6] 29 (0, 0))) := HB'.out
  have HB8 : Hid (Blk (w7.setRow gd #[.slice A0 n0 c0, .slice A1 n1 c1, .slice A2 n2 c2, .string q3, .string q4, .slice A5 n5 c5, .slice A6 n6 c6]) gd 29 #[.slice A0 n0 c0, .slice A1 n1 c1, .slice A2 n2 c2, .string q3, .string q4, .slice A5 n5 c5, .slice A6 n6 c6]) := HB'.out.row _
  have HR8 : Hid (RdSt (w7.setRow gd #[.slice A0 n0 c0, .slice A1 n1 c1, .slice A2 n2 c2, .string q3, .string q4, .slice A5 n5 c5, .slice A6 n6 c6]) g s7) := by
    have h1 := HR'.out
    have h2 := hne.out
    cases hs7 : s7 with
    | none => rw [hs7] at h1; obtain ⟨s, ne, h1⟩ := h1; exact ⟨s, ne, h1.rowFar (fun e => h2 e.symm) _⟩
    | some l => rw [hs7] at h1; exact Blk.rowFar h1 (fun e => h2 e.symm) _
  have HK8 : Hid (Kept g w (w7.setRow gd #[.slice A0 n0 c0, .slice A1 n1 c1, .slice A2 n2 c2, .string q3, .string q4, .slice A5 n5 c5, .slice A6 n6 c6])) := HK'.out.belowB (below_setRow (Below.refl w.heap.size w7) (by rw [hgd.out]; exact Nat.le_refl _) _) (Nat.le_refl _)
  have HF8 := Lib.hid (hS.row (g := gd) #[.slice A0 n0 c0, .slice A1 n1 c1, .slice A2 n2 c2, .string q3, .string q4, .slice A5 n5 c5, .slice A6 n6 c6] (Nat.lt_succ_self _) HF'.out)
  go_wp2_with (first
    | refine wpList_load_row rfl 29 (.tmp 2) rfl gd rfl 29 #[.slice A0 n0 c0, .slice A1 n1 c1, .slice A2 n2 c2, .string q3, .string q4, .slice A5 n5 c5, .slice A6 n6 c6] (0, 0) _ hK7.out Tryd.underlying29 rfl (by kernel_rfl) ?_
    | refine wpList_store_row rfl 29 (.tmp 2) (.tmp 40) rfl gd #[.slice A0 n0 c0, .slice A1 n1 c1, .slice A2 n2 c2, .string q3, .string q4, .slice A5 n5 c5, .slice A6 n6 c6] rfl rfl 29 _ hK7.out (by kernel_rfl) rfl (by simp [Value.oneCell']) ?_
    | fail)
  first
    | refine bodyPost_end (results_cell_row rfl _ _ gd 29 #[.slice A0 n0 c0, .slice A1 n1 c1, .slice A2 n2 c2, .string q3, .string q4, .slice A5 n5 c5, .slice A6 n6 c6] (0, 0) _ rfl HB8.out Tryd.underlying29 rfl (by kernel_rfl)) rfl ?_
    | refine bodyPost_ret (results_cell_row rfl _ _ gd 29 #[.slice A0 n0 c0, .slice A1 n1 c1, .slice A2 n2 c2, .string q3, .string q4, .slice A5 n5 c5, .slice A6 n6 c6] (0, 0) _ rfl HB8.out Tryd.underlying29 rfl (by kernel_rfl)) rfl ?_
  refine ⟨A0, n0, c0, A1, n1, c1, A2, n2, c2, q3, q4, A5, n5, c5, A6, n6, c6, rfl, by rw [HCH.out.1]; exact HR8.out, HK8.out, fun p e => ?_⟩
  obtain ⟨p0, p1, p2, p3, p4, p5, p6, a0, a1, a2, a3, a4, a5, a6, hd⟩ := HCH.out.2 p e
  have key : ∀ b, b ≤ w.heap.size → #[.slice A0 n0 c0, .slice A1 n1 c1, .slice A2 n2 c2, .string q3, .string q4, .slice A5 n5 c5, .slice A6 n6 c6] = drvCells p.1 ⟨A0, A1, A2, A5, A6, c0, c1, c2, c5, c6⟩ ∧ DrvAt (wipe b (w7.setRow gd #[.slice A0 n0 c0, .slice A1 n1 c1, .slice A2 n2 c2, .string q3, .string q4, .slice A5 n5 c5, .slice A6 n6 c6])) p.1 ⟨A0, A1, A2, A5, A6, c0, c1, c2, c5, c6⟩ := fun b hb => by
   have hbw : b < gd + 1 := by have := hgd.out; omega
   obtain ⟨F6, F5, F2, F1, F0, _⟩ := hS.kept hbw (kept_to_wipe b _) HF8.out
   have o0 := F0 p0 a0
   have o1 := F1 p1 a1
   have o2 := F2 p2 a2
   have o5 := F5 p5 a5
   have o6 := F6 p6 a6
   have z3 := HQ3.out p3 a3
   have z4 := HQ4.out p4 a4
   rw [hd]
   refine ⟨by unfold drvCells; rw [o0.1, o1.1, o2.1, o5.1, o6.1, z3, z4], ?_⟩
   have r0 := row_forms o0.2
   have r1 := insRow_forms o1.2
   have r2 := row_forms o2.2
   have r5 := row_forms o5.2
   have r6 := row_forms o6.2
   rw [o0.1] at r0
   rw [o1.1] at r1
   rw [o2.1] at r2
   rw [o5.1] at r5
   rw [o6.1] at r6
   exact ⟨owned_outs o0.1 o0.2, insRow_at o1.1 o1.2, owned_strs2 o2.1 o2.2, owned_strs2 o5.1 o5.2, owned_pairs o6.1 o6.2, r0.1, r1.1, r2.1, r5.1, r6.1, r0.2.1, r1.2, r2.2.1, r5.2.1, r6.2.1, r0.2.2, r2.2.2, r5.2.2, r6.2.2⟩
  exact ⟨(key w.heap.size (Nat.le_refl _)).1, fun b hb => (key b hb).2⟩
end Go.Proofs.YtbldognffppeiaaDoor
