/- stillroomref08.Parse: what its walk rests on. -/
import Derived.Test.YtbldognffppeiaaDoorAtRfTexts
import Derived.Test.YtbldognffppeiaaDoorAtParse
namespace Go.Proofs.YtbldognffppeiaaDoor
open Go.RowKit Quo
set_option linter.unusedSimpArgs false
set_option linter.unusedVariables false
theorem eat_bind (st : Option (List UInt8)) (a b : List UInt8) : st.bind (eat (a ++ b)) = (st.bind (eat a)).bind (eat b) := by
  cases st with
  | none => rfl
  | some l => exact eat_append a b l
/-- What stands while a row of element type e grows. -/
def Grown (e : TypeId) (F : World → Prop) : Prop := ∀ (W W' : World) (b s : Nat) (v : Value) (n : Nat) (xs : List Value), W.ownsRow b e s v n xs → W.grownBy W' v.ownBlock → F W → F W'
theorem grown_true (e : TypeId) : Grown e (fun _ => True) := fun _ _ _ _ _ _ _ _ _ _ => trivial
theorem Grown.and {e : TypeId} {F G : World → Prop} (h : Grown e F) (k : Grown e G) : Grown e (fun W => F W ∧ G W) := fun W W' b s v n xs ho hg x => ⟨h W W' b s v n xs ho hg x.1, k W W' b s v n xs ho hg x.2⟩
theorem grown_own {α : Type} {e e' : TypeId} (hne : e' ≠ e) (b : Nat) (P : Option (α × List UInt8)) (len : α → Nat) (s : Nat) (v : Value) (n : Nat) (cs : α → List Value) : Grown e (fun W => ∀ p, P = some p → n = len p.1 ∧ W.ownsRow b e' s v n (cs p.1)) := fun W W' b1 s1 v1 n1 xs ho hg h p ep => ⟨(h p ep).1, (h p ep).2.kept hg (own_types (h p ep).2 ho hne)⟩
theorem grown_ins {e : TypeId} (h61 : (61 : TypeId) ≠ e) (h9 : (9 : TypeId) ≠ e) (b : Nat) (P : Option (List (ByteArray × List ByteArray) × List UInt8)) (v : Value) (n : Nat) : Grown e (fun W => ∀ p, P = some p → n = p.1.length ∧ InsRow W b v n p.1) := fun W W' b1 s1 v1 n1 xs ho hg h p ep => by
  obtain ⟨hn, RI, h1, h2, h3⟩ := h p ep
  refine ⟨hn, RI, h1, h2.kept hg (own_types h2 ho h61), fun j x hj => ?_⟩
  obtain ⟨An, cn, k1, k2⟩ := h3 j x hj
  exact ⟨An, cn, k1, k2.kept hg (own_types k2 ho h9)⟩
/-- Where the blocks lie. -/
structure PC (w : World) (g b0 b5 : Nat) : Prop where
  h0 : w.heap.size = b0
  hg : g = b0 + 1
  h5 : b5 = b0 + 2
structure PS (w : World) (g b0 b5 : Nat) (s : ByteArray) (F : World → Prop) (cells : Array Value) (st : Option (List UInt8)) (W : World) : Prop where
  rd : RfSt W g s st
  r0 : Blk W b0 29 #[.slice none 0 0, .slice none 0 0, .slice none 0 0, .string ⟨#[]⟩, .string ⟨#[]⟩, .slice none 0 0, .slice none 0 0]
  r5 : Blk W b5 29 cells
  low : Below w.heap.size w W
  own : F W
section
variable {w W W' : World} {g b0 b5 : Nat} {s : ByteArray} {F G : World → Prop} {cells : Array Value} {st st' : Option (List UInt8)}
theorem PS.kept (hc : PC w g b0 b5) (hS : Stable (b5 + 1) F) (h : PS w g b0 b5 s F cells st W) (hk : Kept g W W') (hr : RfSt W' g s st') : PS w g b0 b5 s F cells st' W' := by
  have a := hc.h0
  have b := hc.hg
  have c := hc.h5
  exact ⟨hr, h.r0.keptK hk (by omega), h.r5.keptK hk (by omega), h.low.trans (hk.rest (by omega) h.low.size), hS.kept (by omega) hk h.own⟩
theorem PS.set5 (hc : PC w g b0 b5) (hS : Stable (b5 + 1) F) (h : PS w g b0 b5 s F cells st W) (i : Nat) (u : Value) : PS w g b0 b5 s F (cells.setIfInBounds i u) st (W.setCell ⟨b5, i, none⟩ u) := by
  have a := hc.h0
  have b := hc.hg
  have c := hc.h5
  exact ⟨h.rd.far (show g ≠ b5 by omega) u, h.r0.far (show b0 ≠ b5 by omega) u, h.r5.set_ i u, h.low.setCell (p := ⟨b5, i, none⟩) (show w.heap.size ≤ b5 by omega) u, hS.set (p := ⟨b5, i, none⟩) u (Nat.lt_succ_self _) h.own⟩
theorem PS.withF (h : PS w g b0 b5 s F cells st W) (hG : G W) : PS w g b0 b5 s (fun W => G W ∧ F W) cells st W := ⟨h.rd, h.r0, h.r5, h.low, hG, h.own⟩
theorem PS.grown {e : TypeId} {sz : Nat} {v : Value} {n : Nat} {xs : List Value} (hc : PC w g b0 b5) (hG : Grown e F) (h : PS w g b0 b5 s F cells st W) (ho : W.ownsRow (b5 + 1) e sz v n xs) (hg : W.grownBy W' v.ownBlock) : PS w g b0 b5 s F cells st W' := by
  have a := hc.h0
  have b := hc.hg
  have c := hc.h5
  have hlt := h.r5.lt
  have hb : Below (b5 + 1) W W' := below_of_own ho hg hlt
  exact ⟨h.rd.kept (by omega) hb, h.r0.below hb (by omega), h.r5.below hb (by omega), h.low.trans (hb.mono (by omega)), hG W W' _ _ _ _ _ ho hg h.own⟩
end
/-- A list's loop. -/
structure LI {α : Type} (rd : List UInt8 → Option (α × List UInt8)) (R : Option (List α × List UInt8)) (acc : List α) (sr : Option (List UInt8)) (n : Nat) : Prop where
  len : n = acc.length
  small : acc.length ≤ 1048577
  fit : ∀ l, sr = some l → acc.length + l.length ≤ 1048576
  said : EachSays rd R acc sr
section
variable {α : Type} {rd : List UInt8 → Option (α × List UInt8)} {R : Option (List α × List UInt8)} {acc : List α} {sr : Option (List UInt8)} {n : Nat} {l l2 r : List UInt8}
theorem LI.bad (h : LI rd R acc (some l) n) (hp : [93].isPrefixOf l = false) (hs : sepR acc l = some l2) (he : rd l2 = none) (q : α) : LI rd R (acc ++ [q]) none (n + 1) :=
  ⟨by rw [List.length_append, h.len]; rfl, by have := h.fit l rfl; rw [List.length_append]; simp only [List.length_cons, List.length_nil]; omega, (fun l e => by cases e), h.said.noElem hp hs he⟩
theorem LI.good {tell : α → List UInt8} (hr : Reads rd tell) (hne : ∀ x, ∃ c t, tell x = c :: t ∧ c ≠ 93) (h : LI rd R acc (some l) n) (hp : [93].isPrefixOf l = false) (hs : sepR acc l = some l2) {x : α} (he : rd l2 = some (x, r)) : LI rd R (acc ++ [x]) (some r) (n + 1) ∧ r.length < l.length := by
  have hm := EachSays.more hr hne h.said hp hs he
  refine ⟨⟨by rw [List.length_append, h.len]; rfl, by have := h.fit l rfl; rw [List.length_append]; simp only [List.length_cons, List.length_nil]; omega, (fun l' e => ?_), hm.1⟩, hm.2⟩
  injection e with e
  have h1 := h.fit l rfl
  have h2 := hm.2
  rw [← e, List.length_append]
  simp only [List.length_cons, List.length_nil]
  omega
theorem LI.ends (h : LI rd R acc sr n) (hb : moreB n sr = false) : R = (moreS n sr).map fun l => (acc, l) := more_ends h.said h.len hb
theorem LI.start {st s1 : Option (List UInt8)} (hl : Lim st) (h1 : st.bind (eat [91]) = s1) (h2 : st.bind (eachR rd) = R) : LI rd R [] s1 0 := by
  have h := each_begin hl h1 h2
  exact ⟨rfl, Nat.zero_le _, fun l e => by have := h.2 l e; simpa using this, h.1⟩
theorem ends_snd (h : R = (moreS n sr).map fun l => (acc, l)) : R.map (·.2) = moreS n sr := by rw [h]; cases moreS n sr <;> rfl
end
theorem rdOut_chain (st : Option (List UInt8)) {s0 s1 s2 s3 t0 t1 t2 : Option (List UInt8)} {P0 : Option (ByteArray × List UInt8)} {P1 : Option (ByteArray × List UInt8)} {P2 : Option (ByteArray × List UInt8)} (e0 : st.bind (eat [40]) = s0) (f0 : s0.bind rdS = P0) (g0 : P0.map (·.2) = t0) (e1 : t0.bind (eat [44]) = s1) (f1 : s1.bind rdS = P1) (g1 : P1.map (·.2) = t1) (e2 : t1.bind (eat [44]) = s2) (f2 : s2.bind rdS = P2) (g2 : P2.map (·.2) = t2) (e3 : t2.bind (eat [41]) = s3) : (st.bind rdOut).map (·.2) = s3 ∧ ∀ p, st.bind rdOut = some p → ∃ p0 p1 p2, P0 = some p0 ∧ P1 = some p1 ∧ P2 = some p2 ∧ p.1 = (p0.1, p1.1, p2.1) := by
  cases st with
  | none =>
    subst e0
    subst f0
    subst g0
    subst e1
    subst f1
    subst g1
    subst e2
    subst f2
    subst g2
    subst e3
    exact ⟨rfl, fun p e => by cases e⟩
  | some l =>
    have hrd : (some l).bind rdOut = rdOut l := rfl
    rw [hrd]
    unfold rdOut
    change eat [40] l = s0 at e0
    cases hx0 : eat [40] l with
    | none =>
      rw [hx0] at e0
      subst e0
      subst f0
      subst g0
      subst e1
      subst f1
      subst g1
      subst e2
      subst f2
      subst g2
      subst e3
      exact ⟨rfl, fun p e => by cases e⟩
    | some l0 =>
      rw [hx0] at e0
      subst e0
      change rdS l0 = P0 at f0
      simp only [Option.bind_some]
      cases hy0 : rdS l0 with
      | none =>
        rw [hy0] at f0
        subst f0
        subst g0
        subst e1
        subst f1
        subst g1
        subst e2
        subst f2
        subst g2
        subst e3
        exact ⟨rfl, fun p e => by cases e⟩
      | some p0 =>
        rw [hy0] at f0
        subst f0
        subst g0
        simp only [Option.bind_some]
        change eat [44] p0.2 = s1 at e1
        cases hx1 : eat [44] p0.2 with
        | none =>
          rw [hx1] at e1
          subst e1
          subst f1
          subst g1
          subst e2
          subst f2
          subst g2
          subst e3
          exact ⟨rfl, fun p e => by cases e⟩
        | some l1 =>
          rw [hx1] at e1
          subst e1
          change rdS l1 = P1 at f1
          simp only [Option.bind_some]
          cases hy1 : rdS l1 with
          | none =>
            rw [hy1] at f1
            subst f1
            subst g1
            subst e2
            subst f2
            subst g2
            subst e3
            exact ⟨rfl, fun p e => by cases e⟩
          | some p1 =>
            rw [hy1] at f1
            subst f1
            subst g1
            simp only [Option.bind_some]
            change eat [44] p1.2 = s2 at e2
            cases hx2 : eat [44] p1.2 with
            | none =>
              rw [hx2] at e2
              subst e2
              subst f2
              subst g2
              subst e3
              exact ⟨rfl, fun p e => by cases e⟩
            | some l2 =>
              rw [hx2] at e2
              subst e2
              change rdS l2 = P2 at f2
              simp only [Option.bind_some]
              cases hy2 : rdS l2 with
              | none =>
                rw [hy2] at f2
                subst f2
                subst g2
                subst e3
                exact ⟨rfl, fun p e => by cases e⟩
              | some p2 =>
                rw [hy2] at f2
                subst f2
                subst g2
                simp only [Option.bind_some]
                change eat [41] p2.2 = s3 at e3
                cases hx3 : eat [41] p2.2 with
                | none =>
                  rw [hx3] at e3
                  subst e3
                  exact ⟨rfl, fun p e => by cases e⟩
                | some l3 =>
                  rw [hx3] at e3
                  subst e3
                  exact ⟨rfl, fun p e => by injection e with e; subst e; exact ⟨p0, p1, p2, rfl, rfl, rfl, rfl⟩⟩
theorem rdEnv_chain (st : Option (List UInt8)) {s0 s1 s2 t0 t1 : Option (List UInt8)} {P0 : Option (ByteArray × List UInt8)} {P1 : Option (ByteArray × List UInt8)} (e0 : st.bind (eat [40]) = s0) (f0 : s0.bind rdS = P0) (g0 : P0.map (·.2) = t0) (e1 : t0.bind (eat [44]) = s1) (f1 : s1.bind rdS = P1) (g1 : P1.map (·.2) = t1) (e2 : t1.bind (eat [41]) = s2) : (st.bind rdEnv).map (·.2) = s2 ∧ ∀ p, st.bind rdEnv = some p → ∃ p0 p1, P0 = some p0 ∧ P1 = some p1 ∧ p.1 = (p0.1, p1.1) := by
  cases st with
  | none =>
    subst e0
    subst f0
    subst g0
    subst e1
    subst f1
    subst g1
    subst e2
    exact ⟨rfl, fun p e => by cases e⟩
  | some l =>
    have hrd : (some l).bind rdEnv = rdEnv l := rfl
    rw [hrd]
    unfold rdEnv
    change eat [40] l = s0 at e0
    cases hx0 : eat [40] l with
    | none =>
      rw [hx0] at e0
      subst e0
      subst f0
      subst g0
      subst e1
      subst f1
      subst g1
      subst e2
      exact ⟨rfl, fun p e => by cases e⟩
    | some l0 =>
      rw [hx0] at e0
      subst e0
      change rdS l0 = P0 at f0
      simp only [Option.bind_some]
      cases hy0 : rdS l0 with
      | none =>
        rw [hy0] at f0
        subst f0
        subst g0
        subst e1
        subst f1
        subst g1
        subst e2
        exact ⟨rfl, fun p e => by cases e⟩
      | some p0 =>
        rw [hy0] at f0
        subst f0
        subst g0
        simp only [Option.bind_some]
        change eat [44] p0.2 = s1 at e1
        cases hx1 : eat [44] p0.2 with
        | none =>
          rw [hx1] at e1
          subst e1
          subst f1
          subst g1
          subst e2
          exact ⟨rfl, fun p e => by cases e⟩
        | some l1 =>
          rw [hx1] at e1
          subst e1
          change rdS l1 = P1 at f1
          simp only [Option.bind_some]
          cases hy1 : rdS l1 with
          | none =>
            rw [hy1] at f1
            subst f1
            subst g1
            subst e2
            exact ⟨rfl, fun p e => by cases e⟩
          | some p1 =>
            rw [hy1] at f1
            subst f1
            subst g1
            simp only [Option.bind_some]
            change eat [41] p1.2 = s2 at e2
            cases hx2 : eat [41] p1.2 with
            | none =>
              rw [hx2] at e2
              subst e2
              exact ⟨rfl, fun p e => by cases e⟩
            | some l2 =>
              rw [hx2] at e2
              subst e2
              exact ⟨rfl, fun p e => by injection e with e; subst e; exact ⟨p0, p1, rfl, rfl, rfl⟩⟩
theorem rdIn_chainE (st : Option (List UInt8)) {s0 s1 s2 t0 t1 : Option (List UInt8)} {P0 : Option (ByteArray × List UInt8)} {P1 : Option (List ByteArray × List UInt8)} (e0 : st.bind (eat [40]) = s0) (f0 : s0.bind rdS = P0) (g0 : P0.map (·.2) = t0) (e1 : t0.bind (eat [44]) = s1) (f1 : s1.bind (eachR rdS) = P1) (g1 : P1.map (·.2) = t1) (e2 : t1.bind (eat [41]) = s2) : (st.bind rdIn).map (·.2) = s2 ∧ ∀ p, st.bind rdIn = some p → ∃ p0 p1, P0 = some p0 ∧ P1 = some p1 ∧ p.1 = (p0.1, p1.1) := by
  cases st with
  | none =>
    subst e0
    subst f0
    subst g0
    subst e1
    subst f1
    subst g1
    subst e2
    exact ⟨rfl, fun p e => by cases e⟩
  | some l =>
    have hrd : (some l).bind rdIn = rdIn l := rfl
    rw [hrd]
    unfold rdIn
    change eat [40] l = s0 at e0
    cases hx0 : eat [40] l with
    | none =>
      rw [hx0] at e0
      subst e0
      subst f0
      subst g0
      subst e1
      subst f1
      subst g1
      subst e2
      exact ⟨rfl, fun p e => by cases e⟩
    | some l0 =>
      rw [hx0] at e0
      subst e0
      change rdS l0 = P0 at f0
      simp only [Option.bind_some]
      cases hy0 : rdS l0 with
      | none =>
        rw [hy0] at f0
        subst f0
        subst g0
        subst e1
        subst f1
        subst g1
        subst e2
        exact ⟨rfl, fun p e => by cases e⟩
      | some p0 =>
        rw [hy0] at f0
        subst f0
        subst g0
        simp only [Option.bind_some]
        change eat [44] p0.2 = s1 at e1
        cases hx1 : eat [44] p0.2 with
        | none =>
          rw [hx1] at e1
          subst e1
          subst f1
          subst g1
          subst e2
          exact ⟨rfl, fun p e => by cases e⟩
        | some l1 =>
          rw [hx1] at e1
          subst e1
          change (eachR rdS) l1 = P1 at f1
          simp only [Option.bind_some]
          cases hy1 : (eachR rdS) l1 with
          | none =>
            rw [hy1] at f1
            subst f1
            subst g1
            subst e2
            exact ⟨rfl, fun p e => by cases e⟩
          | some p1 =>
            rw [hy1] at f1
            subst f1
            subst g1
            simp only [Option.bind_some]
            change eat [41] p1.2 = s2 at e2
            cases hx2 : eat [41] p1.2 with
            | none =>
              rw [hx2] at e2
              subst e2
              exact ⟨rfl, fun p e => by cases e⟩
            | some l2 =>
              rw [hx2] at e2
              subst e2
              exact ⟨rfl, fun p e => by injection e with e; subst e; exact ⟨p0, p1, rfl, rfl, rfl⟩⟩
end Go.Proofs.YtbldognffppeiaaDoor
