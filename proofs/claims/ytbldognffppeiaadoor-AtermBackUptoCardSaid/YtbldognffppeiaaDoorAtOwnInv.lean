/- stillroomlaw08.Own: what stands while a derivation is copied. -/
import Derived.Test.YtbldognffppeiaaDoorAtRefRight
import Derived.Deep.AppendLies
namespace Go.Proofs.YtbldognffppeiaaDoor
open Go.RowKit
set_option linter.unusedSimpArgs false
set_option linter.unusedVariables false
def outsCells (l : List (ByteArray × ByteArray × ByteArray)) : List Value := l.flatMap fun x => [.string x.1, .string x.2.1, .string x.2.2]
def pairsCells (l : List (ByteArray × ByteArray)) : List Value := l.flatMap fun x => [.string x.1, .string x.2]
def recCells (R : List (ByteArray × Value)) : List Value := R.flatMap fun r => [.string r.1, r.2]
theorem outsCells_length (l : List (ByteArray × ByteArray × ByteArray)) : (outsCells l).length = l.length * 3 := by
  induction l with
  | nil => rfl
  | cons r R ih => simp [outsCells] at ih ⊢; omega
theorem pairsCells_length (l : List (ByteArray × ByteArray)) : (pairsCells l).length = l.length * 2 := by
  induction l with
  | nil => rfl
  | cons r R ih => simp [pairsCells] at ih ⊢; omega
theorem recCells_length (R : List (ByteArray × Value)) : (recCells R).length = R.length * 2 := by
  induction R with
  | nil => rfl
  | cons r R ih => simp [recCells] at ih ⊢; omega
theorem recCells_snoc (R : List (ByteArray × Value)) (nm : ByteArray) (v : Value) : recCells R ++ [.string nm, v] = recCells (R ++ [(nm, v)]) := by simp [recCells]
theorem outsCells_at (l : List (ByteArray × ByteArray × ByteArray)) : ∀ (j : Nat) (x : ByteArray × ByteArray × ByteArray), l[j]? = some x → (outsCells l)[j * 3]? = some (.string x.1) ∧ (outsCells l)[j * 3 + 1]? = some (.string x.2.1) ∧ (outsCells l)[j * 3 + 2]? = some (.string x.2.2) := by
  induction l with
  | nil => intro j r h; simp at h
  | cons y R ih =>
    intro j x h
    have e : outsCells (y :: R) = .string y.1 :: .string y.2.1 :: .string y.2.2 :: outsCells R := by simp [outsCells]
    rw [e]
    cases j with
    | zero => simp at h; subst h; exact ⟨rfl, rfl, rfl⟩
    | succ j =>
      have := ih j x (by simpa using h)
      rw [show (j + 1) * 3 = j * 3 + 1 + 1 + 1 by omega]
      simpa using this
theorem pairsCells_at (l : List (ByteArray × ByteArray)) : ∀ (j : Nat) (x : ByteArray × ByteArray), l[j]? = some x → (pairsCells l)[j * 2]? = some (.string x.1) ∧ (pairsCells l)[j * 2 + 1]? = some (.string x.2) := by
  induction l with
  | nil => intro j r h; simp at h
  | cons y R ih =>
    intro j x h
    have e : pairsCells (y :: R) = .string y.1 :: .string y.2 :: pairsCells R := by simp [pairsCells]
    rw [e]
    cases j with
    | zero => simp at h; subst h; exact ⟨rfl, rfl⟩
    | succ j =>
      have := ih j x (by simpa using h)
      rw [show (j + 1) * 2 = j * 2 + 1 + 1 by omega]
      simpa using this
theorem recCells_at (R : List (ByteArray × Value)) : ∀ (j : Nat) (r : ByteArray × Value), R[j]? = some r → (recCells R)[j * 2]? = some (.string r.1) ∧ (recCells R)[j * 2 + 1]? = some r.2 := by
  induction R with
  | nil => intro j r h; simp at h
  | cons x R ih =>
    intro j r h
    have e : recCells (x :: R) = .string x.1 :: x.2 :: recCells R := by simp [recCells]
    rw [e]
    cases j with
    | zero => simp at h; subst h; exact ⟨rfl, rfl⟩
    | succ j =>
      have := ih j r (by simpa using h)
      rw [show (j + 1) * 2 = j * 2 + 1 + 1 by omega]
      simpa using this
theorem outs_one (l : List (ByteArray × ByteArray × ByteArray)) : ∀ u ∈ outsCells l, u.oneCell' = true := fun u hu => by
  simp only [outsCells, List.mem_flatMap] at hu
  obtain ⟨x, _, hu⟩ := hu
  simp at hu
  rcases hu with rfl | rfl | rfl <;> rfl
theorem pairs_one (l : List (ByteArray × ByteArray)) : ∀ u ∈ pairsCells l, u.oneCell' = true := fun u hu => by
  simp only [pairsCells, List.mem_flatMap] at hu
  obtain ⟨x, _, hu⟩ := hu
  simp at hu
  rcases hu with rfl | rfl <;> rfl
theorem strs_one (l : List ByteArray) : ∀ u ∈ l.map Value.string, u.oneCell' = true := fun u hu => by
  obtain ⟨x, _, rfl⟩ := List.mem_map.1 hu
  rfl
/-- The cells of a list of outputs, as they lie. -/
theorem outs_news {w W : World} {A : Option Addr} {l : List (ByteArray × ByteArray × ByteArray)} (h : OutsAt w A l) (hb : Below w.heap.size w W) : ∀ ad, A = some ad → ∀ j u, (outsCells l)[j]? = some u → W.cell? (ad.add j) = some u := fun ad e j u hj => by
  have hjl := (List.getElem?_eq_some_iff.1 hj).1
  rw [outsCells_length] at hjl
  have hq : j / 3 < l.length := by omega
  obtain ⟨g, o, e1, h1, h2, h3⟩ := (h.below hb) (j / 3) l[j / 3] (List.getElem?_eq_getElem hq)
  have hc := outsCells_at l (j / 3) l[j / 3] (List.getElem?_eq_getElem hq)
  rw [e] at e1
  injection e1 with e1
  subst e1
  rw [Addr.add_mid]
  have hm : j = j / 3 * 3 ∨ j = j / 3 * 3 + 1 ∨ j = j / 3 * 3 + 2 := by omega
  rcases hm with e2 | e2 | e2
  · rw [e2] at hj ⊢; rw [hc.1] at hj; rw [← hj]; exact h1
  · rw [e2] at hj ⊢; rw [hc.2.1] at hj; rw [← hj, ← Nat.add_assoc]; exact h2
  · rw [e2] at hj ⊢; rw [hc.2.2] at hj; rw [← hj, ← Nat.add_assoc]; exact h3
theorem pairs_news {w W : World} {A : Option Addr} {l : List (ByteArray × ByteArray)} (h : PairsAt w A l) (hb : Below w.heap.size w W) : ∀ ad, A = some ad → ∀ j u, (pairsCells l)[j]? = some u → W.cell? (ad.add j) = some u := fun ad e j u hj => by
  have hjl := (List.getElem?_eq_some_iff.1 hj).1
  rw [pairsCells_length] at hjl
  have hq : j / 2 < l.length := by omega
  obtain ⟨g, o, e1, h1, h2⟩ := (h.below hb) (j / 2) l[j / 2] (List.getElem?_eq_getElem hq)
  have hc := pairsCells_at l (j / 2) l[j / 2] (List.getElem?_eq_getElem hq)
  rw [e] at e1
  injection e1 with e1
  subst e1
  rw [Addr.add_mid]
  have hm : j = j / 2 * 2 ∨ j = j / 2 * 2 + 1 := by omega
  rcases hm with e2 | e2
  · rw [e2] at hj ⊢; rw [hc.1] at hj; rw [← hj]; exact h1
  · rw [e2] at hj ⊢; rw [hc.2] at hj; rw [← hj, ← Nat.add_assoc]; exact h2
theorem strs_news {w W : World} {A : Option Addr} {l : List ByteArray} (h : StrsAt w A l) (hb : Below w.heap.size w W) : ∀ ad, A = some ad → ∀ j u, (l.map Value.string)[j]? = some u → W.cell? (ad.add j) = some u := fun ad e j u hj => by
  rw [List.getElem?_map] at hj
  obtain ⟨s, hs, rfl⟩ := Option.map_eq_some_iff.1 hj
  obtain ⟨g, o, e1, h1⟩ := (h.below hb) j s hs
  rw [e] at e1
  injection e1 with e1
  subst e1
  rw [Addr.add_mid]
  exact h1
/-- Two values do not lie in one block. -/
def Apart (v v' : Value) : Prop := ∀ g, v.ownBlock = some g → v'.ownBlock ≠ some g
theorem below_grown {w w' : World} (h : Below w.heap.size w w') : w.grownBy w' none := ⟨h.os, h.tape, h.output, h.size, fun k hk _ => h.block k hk⟩
theorem own_kept {w w' : World} {base : Nat} {e : TypeId} {size : Nat} {v : Value} {n : Nat} {xs : List Value} (h : w.ownsRow base e size v n xs) (hb : Below w.heap.size w w') : w'.ownsRow base e size v n xs :=
  h.kept (below_grown hb) (by
    cases hv : v.ownBlock with
    | none => exact .inl rfl
    | some g => exact .inr (fun e => by cases e))
theorem own_lt {w : World} {base : Nat} {e : TypeId} {size : Nat} {v : Value} {n : Nat} {xs : List Value} (h : w.ownsRow base e size v n xs) {g : Nat} (hg : v.ownBlock = some g) : base ≤ g ∧ g < w.heap.size := h.lt g hg
theorem own_weaken {w : World} {base base' : Nat} {e : TypeId} {s : Nat} {v : Value} {n : Nat} {xs : List Value} (h : w.ownsRow base e s v n xs) (hb : base' ≤ base) : w.ownsRow base' e s v n xs := by
  obtain ⟨hl, h0 | ⟨g, cap, cur, hv, hg, hr⟩⟩ := h
  · exact ⟨hl, .inl h0⟩
  · exact ⟨hl, .inr ⟨g, cap, cur, hv, Nat.le_trans hb hg, hr⟩⟩
/-- A write into a block ahead of a row. -/
theorem own_set {w : World} {base : Nat} {e : TypeId} {size : Nat} {v : Value} {n : Nat} {xs : List Value} (h : w.ownsRow base e size v n xs) {p : Addr} (hp : p.block < base) (u : Value) : (w.setCell p u).ownsRow base e size v n xs :=
  h.kept (row := some p.block) ⟨rfl, rfl, rfl, by simp [World.setCell], fun i _ hne => Below.heap_setCell w p u i (fun e => hne (by rw [e]))⟩ (by
    cases hv : v.ownBlock with
    | none => exact .inl rfl
    | some g => exact .inr (fun e => by have h1 := own_lt h hv; have e2 : g = p.block := by injection e
                                        omega))
/-- What an own row looks like. -/
theorem row_form {w : World} {base : Nat} {e : TypeId} {size : Nat} {v : Value} {n : Nat} {xs : List Value} (h : w.ownsRow base e size v n xs) : ∃ A c, v = .slice A n c ∧ n ≤ c ∧ c ≤ maxLen ∧ (A = none → n = 0 ∧ c = 0) ∧ Hid (w.ownsRow base e size (.slice A n c) n xs) := by
  obtain ⟨hl, ⟨rfl, rfl⟩ | ⟨g, cap, cur, rfl, hg, hb, hc, hm, hsz, ht⟩⟩ := h
  · exact ⟨none, 0, rfl, Nat.le_refl _, Nat.zero_le _, fun _ => ⟨rfl, rfl⟩, hl, .inl ⟨rfl, rfl⟩⟩
  · exact ⟨some ⟨g, 0, none⟩, cap, rfl, hc, hm, (fun h => by cases h), hl, .inr ⟨g, cap, cur, rfl, hg, hb, hc, hm, hsz, ht⟩⟩
theorem owned_outs {w : World} {b : Nat} {A : Option Addr} {n c : Nat} {l : List (ByteArray × ByteArray × ByteArray)} (hn : n = l.length) (h : w.ownsRow b 49 3 (.slice A n c) n (outsCells l)) : OutsAt w A l := fun j x hj => by
  have hjl := (List.getElem?_eq_some_iff.1 hj).1
  obtain ⟨g, cap, e, hg1, hg2⟩ := h.form (by omega)
  injection e with e1 e2 e3
  subst e1 e3
  have hc := outsCells_at l j x hj
  exact ⟨g, 0, rfl, by rw [Nat.zero_add]; exact (h.cellAt (j * 3) (by omega)).trans hc.1, by rw [Nat.zero_add]; exact (h.cellAt (j * 3 + 1) (by omega)).trans hc.2.1, by rw [Nat.zero_add]; exact (h.cellAt (j * 3 + 2) (by omega)).trans hc.2.2⟩
theorem owned_pairs {w : World} {b : Nat} {A : Option Addr} {n c : Nat} {l : List (ByteArray × ByteArray)} (hn : n = l.length) (h : w.ownsRow b 70 2 (.slice A n c) n (pairsCells l)) : PairsAt w A l := fun j x hj => by
  have hjl := (List.getElem?_eq_some_iff.1 hj).1
  obtain ⟨g, cap, e, hg1, hg2⟩ := h.form (by omega)
  injection e with e1 e2 e3
  subst e1 e3
  have hc := pairsCells_at l j x hj
  exact ⟨g, 0, rfl, by rw [Nat.zero_add]; exact (h.cellAt (j * 2) (by omega)).trans hc.1, by rw [Nat.zero_add]; exact (h.cellAt (j * 2 + 1) (by omega)).trans hc.2⟩
theorem owned_strs2 {w : World} {b : Nat} {A : Option Addr} {n c : Nat} {l : List ByteArray} (hn : n = l.length) (h : w.ownsRow b 9 1 (.slice A n c) n (l.map Value.string)) : StrsAt w A l := by
  obtain ⟨A', c', e, _, _, hs⟩ := owned_strs hn h
  injection e with e1 e2 e3
  subst e1
  exact hs
structure OwnInv (ws : World) (d : Drv) (go : Nat) (v0 v1 v2 v5 v6 : Value) (n0 k n2 n5 n6 : Nat) (l0 : List (ByteArray × ByteArray × ByteArray)) (l2 l5 : List ByteArray) (l6 : List (ByteArray × ByteArray)) (RI : List (ByteArray × Value)) (W : World) : Prop where
  below : Below ws.heap.size ws W
  go_ge : ws.heap.size ≤ go
  blk : Blk W go 29 #[v0, v1, v2, .string d.sys, .string d.bld, v5, v6]
  r0 : W.ownsRow (go + 1) 49 3 v0 n0 (outsCells l0)
  r1 : W.ownsRow (go + 1) 61 2 v1 k (recCells RI)
  r2 : W.ownsRow (go + 1) 9 1 v2 n2 (l2.map Value.string)
  r5 : W.ownsRow (go + 1) 9 1 v5 n5 (l5.map Value.string)
  r6 : W.ownsRow (go + 1) 70 2 v6 n6 (pairsCells l6)
  lenI : RI.length = k
  recs : ∀ (j : Nat) (r : ByteArray × Value), RI[j]? = some r → ∃ x An cn, d.ins[j]? = some x ∧ r = (x.1, .slice An x.2.length cn) ∧ x.2.length ≤ cn ∧ cn ≤ maxLen ∧ (An = none → x.2.length = 0 ∧ cn = 0) ∧ W.ownsRow (go + 1) 9 1 (.slice An x.2.length cn) x.2.length (x.2.map Value.string) ∧ Apart (.slice An x.2.length cn) v1
  a0 : Apart v0 v1
  a2 : Apart v2 v1
  a5 : Apart v5 v1
  a6 : Apart v6 v1
section
variable {ws : World} {d : Drv} {go : Nat} {v0 v1 v2 v5 v6 : Value} {n0 k n2 n5 n6 : Nat} {l0 : List (ByteArray × ByteArray × ByteArray)} {l2 l5 : List ByteArray} {l6 : List (ByteArray × ByteArray)} {RI : List (ByteArray × Value)} {W W' : World}
theorem OwnInv.grown (h : OwnInv ws d go v0 v1 v2 v5 v6 n0 k n2 n5 n6 l0 l2 l5 l6 RI W) (hb : Below W.heap.size W W') : OwnInv ws d go v0 v1 v2 v5 v6 n0 k n2 n5 n6 l0 l2 l5 l6 RI W' :=
  ⟨below_step' h.below hb, h.go_ge, h.blk.below hb h.blk.lt, own_kept h.r0 hb, own_kept h.r1 hb, own_kept h.r2 hb, own_kept h.r5 hb, own_kept h.r6 hb, h.lenI, fun j r hr => by
    obtain ⟨x, An, cn, h1, h2, h3, h4, h5, h6, h7⟩ := h.recs j r hr
    exact ⟨x, An, cn, h1, h2, h3, h4, h5, own_kept h6 hb, h7⟩, h.a0, h.a2, h.a5, h.a6⟩
theorem OwnInv.set0 (h : OwnInv ws d go v0 v1 v2 v5 v6 n0 k n2 n5 n6 l0 l2 l5 l6 RI W) {v : Value} {n : Nat} {l : List (ByteArray × ByteArray × ByteArray)} (hr : W.ownsRow (go + 1) 49 3 v n (outsCells l)) (ha : Apart v v1) : OwnInv ws d go v v1 v2 v5 v6 n k n2 n5 n6 l l2 l5 l6 RI (W.setCell ⟨go, 0, none⟩ v) :=
  ⟨h.below.setCell (p := ⟨go, 0, none⟩) h.go_ge _, h.go_ge, h.blk.set_ 0 v, own_set hr (Nat.lt_succ_self _) _, own_set h.r1 (Nat.lt_succ_self _) _, own_set h.r2 (Nat.lt_succ_self _) _, own_set h.r5 (Nat.lt_succ_self _) _, own_set h.r6 (Nat.lt_succ_self _) _, h.lenI, fun j r hr => by
    obtain ⟨x, An, cn, h1, h2, h3, h4, h5, h6, h7⟩ := h.recs j r hr
    exact ⟨x, An, cn, h1, h2, h3, h4, h5, own_set h6 (Nat.lt_succ_self _) _, h7⟩, ha, h.a2, h.a5, h.a6⟩
theorem OwnInv.set2 (h : OwnInv ws d go v0 v1 v2 v5 v6 n0 k n2 n5 n6 l0 l2 l5 l6 RI W) {v : Value} {n : Nat} {l : List ByteArray} (hr : W.ownsRow (go + 1) 9 1 v n (l.map Value.string)) (ha : Apart v v1) : OwnInv ws d go v0 v1 v v5 v6 n0 k n n5 n6 l0 l l5 l6 RI (W.setCell ⟨go, 2, none⟩ v) :=
  ⟨h.below.setCell (p := ⟨go, 2, none⟩) h.go_ge _, h.go_ge, h.blk.set_ 2 v, own_set h.r0 (Nat.lt_succ_self _) _, own_set h.r1 (Nat.lt_succ_self _) _, own_set hr (Nat.lt_succ_self _) _, own_set h.r5 (Nat.lt_succ_self _) _, own_set h.r6 (Nat.lt_succ_self _) _, h.lenI, fun j r hr => by
    obtain ⟨x, An, cn, h1, h2, h3, h4, h5, h6, h7⟩ := h.recs j r hr
    exact ⟨x, An, cn, h1, h2, h3, h4, h5, own_set h6 (Nat.lt_succ_self _) _, h7⟩, h.a0, ha, h.a5, h.a6⟩
theorem OwnInv.set5 (h : OwnInv ws d go v0 v1 v2 v5 v6 n0 k n2 n5 n6 l0 l2 l5 l6 RI W) {v : Value} {n : Nat} {l : List ByteArray} (hr : W.ownsRow (go + 1) 9 1 v n (l.map Value.string)) (ha : Apart v v1) : OwnInv ws d go v0 v1 v2 v v6 n0 k n2 n n6 l0 l2 l l6 RI (W.setCell ⟨go, 5, none⟩ v) :=
  ⟨h.below.setCell (p := ⟨go, 5, none⟩) h.go_ge _, h.go_ge, h.blk.set_ 5 v, own_set h.r0 (Nat.lt_succ_self _) _, own_set h.r1 (Nat.lt_succ_self _) _, own_set h.r2 (Nat.lt_succ_self _) _, own_set hr (Nat.lt_succ_self _) _, own_set h.r6 (Nat.lt_succ_self _) _, h.lenI, fun j r hr => by
    obtain ⟨x, An, cn, h1, h2, h3, h4, h5, h6, h7⟩ := h.recs j r hr
    exact ⟨x, An, cn, h1, h2, h3, h4, h5, own_set h6 (Nat.lt_succ_self _) _, h7⟩, h.a0, h.a2, ha, h.a6⟩
theorem OwnInv.set6 (h : OwnInv ws d go v0 v1 v2 v5 v6 n0 k n2 n5 n6 l0 l2 l5 l6 RI W) {v : Value} {n : Nat} {l : List (ByteArray × ByteArray)} (hr : W.ownsRow (go + 1) 70 2 v n (pairsCells l)) (ha : Apart v v1) : OwnInv ws d go v0 v1 v2 v5 v n0 k n2 n5 n l0 l2 l5 l RI (W.setCell ⟨go, 6, none⟩ v) :=
  ⟨h.below.setCell (p := ⟨go, 6, none⟩) h.go_ge _, h.go_ge, h.blk.set_ 6 v, own_set h.r0 (Nat.lt_succ_self _) _, own_set h.r1 (Nat.lt_succ_self _) _, own_set h.r2 (Nat.lt_succ_self _) _, own_set h.r5 (Nat.lt_succ_self _) _, own_set hr (Nat.lt_succ_self _) _, h.lenI, fun j r hr => by
    obtain ⟨x, An, cn, h1, h2, h3, h4, h5, h6, h7⟩ := h.recs j r hr
    exact ⟨x, An, cn, h1, h2, h3, h4, h5, own_set h6 (Nat.lt_succ_self _) _, h7⟩, h.a0, h.a2, h.a5, ha⟩
theorem apart_nil (v : Value) : Apart v (.slice none 0 0) := fun g _ e => by cases e
/-- An input is laid behind the list. -/
theorem OwnInv.put1 (h : OwnInv ws d go v0 v1 v2 v5 v6 n0 k n2 n5 n6 l0 l2 l5 l6 RI W) {x : ByteArray × List ByteArray} (hx : d.ins[k]? = some x) {An : Option Addr} {cn : Nat} (hc : x.2.length ≤ cn) (hm : cn ≤ maxLen) (hz : An = none → x.2.length = 0 ∧ cn = 0)
    (hrow : W.ownsRow (go + 1) 9 1 (.slice An x.2.length cn) x.2.length (x.2.map Value.string)) (hap : Apart (.slice An x.2.length cn) v1) {g cap H : Nat}
    (hown : W'.ownsRow (go + 1) 61 2 (.slice (some ⟨g, 0, none⟩) (k + 1) cap) (k + 1) (recCells RI ++ [.string x.1, .slice An x.2.length cn])) (hg : W.grownBy W' v1.ownBlock) (hat : v1.ownBlock = some g ∨ g = H) (hH : W.heap.size = H) :
    OwnInv ws d go v0 (.slice (some ⟨g, 0, none⟩) (k + 1) cap) v2 v5 v6 n0 (k + 1) n2 n5 n6 l0 l2 l5 l6 (RI ++ [(x.1, .slice An x.2.length cn)]) (W'.setCell ⟨go, 1, none⟩ (.slice (some ⟨g, 0, none⟩) (k + 1) cap)) := by
  have hk : ∀ {v : Value} {base : Nat} {e : TypeId} {size n : Nat} {xs : List Value}, W.ownsRow base e size v n xs → Apart v v1 → W'.ownsRow base e size v n xs := fun hr ha => hr.kept hg (by
    cases hv : Value.ownBlock _ with
    | none => exact .inl rfl
    | some x => exact .inr (fun e => ha x hv e.symm))
  have hlt : ∀ {v : Value} {base : Nat} {e : TypeId} {size n : Nat} {xs : List Value}, W.ownsRow base e size v n xs → Apart v v1 → Apart v (.slice (some ⟨g, 0, none⟩) (k + 1) cap) := fun hr ha x hx e => by
    have h1 := own_lt hr hx
    have e2 : g = x := by injection e
    rcases hat with h2 | h2
    · exact ha x hx (by rw [h2, e2])
    · omega
  have hgo := h.blk.lt
  have hne : ∀ i, i ≤ go → some i ≠ v1.ownBlock := fun i hi e => by
    have := own_lt h.r1 e.symm
    omega
  have hb : Below ws.heap.size ws W' := h.below.trans ⟨hg.os, hg.tape, hg.output, hg.size, fun i hi => hg.block i (Nat.lt_of_lt_of_le hi h.below.size) (hne i (by have := h.go_ge; omega))⟩
  have hblk : Blk W' go 29 #[v0, v1, v2, .string d.sys, .string d.bld, v5, v6] := (hg.block go hgo (hne go (Nat.le_refl _))).trans h.blk
  have hls := Nat.lt_succ_self go
  refine ⟨hb.setCell (p := ⟨go, 1, none⟩) h.go_ge _, h.go_ge, hblk.set_ 1 _, own_set (hk h.r0 h.a0) hls _, ?_, own_set (hk h.r2 h.a2) hls _, own_set (hk h.r5 h.a5) hls _, own_set (hk h.r6 h.a6) hls _, by rw [List.length_append, h.lenI]; rfl, fun j r hr => ?_, hlt h.r0 h.a0, hlt h.r2 h.a2, hlt h.r5 h.a5, hlt h.r6 h.a6⟩
  · rw [← recCells_snoc]
    exact own_set hown hls _
  · by_cases hj : j < k
    · rw [List.getElem?_append_left (by rw [h.lenI]; exact hj)] at hr
      obtain ⟨x', An', cn', h1, h2, h3, h4, h5, h6, h7⟩ := h.recs j r hr
      exact ⟨x', An', cn', h1, h2, h3, h4, h5, own_set (hk h6 h7) hls _, hlt h6 h7⟩
    · rw [List.getElem?_append_right (by rw [h.lenI]; omega), h.lenI] at hr
      have e0 : j - k = 0 := by
        have := (List.getElem?_eq_some_iff.1 hr).1
        simp at this
        omega
      obtain rfl : j = k := by omega
      rw [e0] at hr
      simp at hr
      subst hr
      exact ⟨x, An, cn, hx, rfl, hc, hm, hz, own_set (hk hrow hap) hls _, hlt hrow hap⟩
theorem own_row {w : World} {base : Nat} {e : TypeId} {size : Nat} {v : Value} {n : Nat} {xs : List Value} (h : w.ownsRow base e size v n xs) {g : Nat} (hp : g < base) (cs : Array Value) : (w.setRow g cs).ownsRow base e size v n xs :=
  h.kept (row := some g) ⟨rfl, rfl, rfl, by simp [World.setRow], fun i _ hne => setRow_other w g i cs (fun e => hne (by rw [e]))⟩ (by
    cases hv : v.ownBlock with
    | none => exact .inl rfl
    | some g' => exact .inr (fun e => by have h1 := own_lt h hv; have e2 : g' = g := by injection e
                                         omega))
/-- A write of a whole block ahead of the copy. -/
theorem OwnInv.row (h : OwnInv ws d go v0 v1 v2 v5 v6 n0 k n2 n5 n6 l0 l2 l5 l6 RI W) {g : Nat} (hg : g < go) (cs : Array Value) : OwnInv (ws.setRow g cs) d go v0 v1 v2 v5 v6 n0 k n2 n5 n6 l0 l2 l5 l6 RI (W.setRow g cs) := by
  have hl : g < go + 1 := by omega
  have hsz : (ws.setRow g cs).heap.size = ws.heap.size := by simp [World.setRow]
  refine ⟨?_, by rw [hsz]; exact h.go_ge, h.blk.rowFar (by omega) _, own_row h.r0 hl _, own_row h.r1 hl _, own_row h.r2 hl _, own_row h.r5 hl _, own_row h.r6 hl _, h.lenI, fun j r hr => ?_, h.a0, h.a2, h.a5, h.a6⟩
  · rw [hsz]
    refine ⟨h.below.os, h.below.tape, h.below.output, by simp [World.setRow]; exact h.below.size, fun i hi => ?_⟩
    by_cases hig : i = g
    · subst hig
      have h1 := h.below.block i hi
      unfold World.setRow
      simp only [Array.getElem?_modify, if_true, h1]
    · rw [setRow_other W g i cs hig, setRow_other ws g i cs hig]
      exact h.below.block i hi
  · obtain ⟨x, An, cn, h1, h2, h3, h4, h5, h6, h7⟩ := h.recs j r hr
    exact ⟨x, An, cn, h1, h2, h3, h4, h5, own_row h6 hl _, h7⟩
theorem apart_above {w w' : World} {base base' : Nat} {e e' : TypeId} {s s' : Nat} {v v' : Value} {n n' : Nat} {xs xs' : List Value} (h : w.ownsRow base e s v n xs) (h' : w'.ownsRow base' e' s' v' n' xs') (hb : w'.heap.size ≤ base) : Apart v v' := fun g hg hg' => by
  have h1 := own_lt h hg
  have h2 := own_lt h' hg'
  omega
theorem Below.of_grown {ws w1 w2 : World} {o : Obj} {base : Nat} {e : TypeId} {s : Nat} {v : Value} {n : Nat} {xs : List Value} (hg : (w1.alloc o).grownBy w2 v.ownBlock) (hs : ws.heap.size ≤ w1.heap.size) (hr : w1.ownsRow base e s v n xs) (hb : ws.heap.size ≤ base) : Below ws.heap.size w1 w2 :=
  ((Below.refl ws.heap.size w1).alloc hs o).trans ⟨hg.os, hg.tape, hg.output, hg.size, fun i hi => hg.block i (by rw [World.size_alloc]; omega) (fun e => by have := own_lt hr e.symm; omega)⟩
/-- An input's step, as the region leaves it. -/
theorem OwnInv.step1 {w1 w2 : World} (h0 : OwnInv ws d go v0 v1 v2 v5 v6 n0 k n2 n5 n6 l0 l2 l5 l6 RI W) (h1 : OwnInv ws d go v0 v1 v2 v5 v6 n0 k n2 n5 n6 l0 l2 l5 l6 RI w1) {x : ByteArray × List ByteArray} (hx : d.ins[k]? = some x) {z : Nat} (hzx : z = x.2.length) {An : Option Addr} {cn : Nat} (hc : z ≤ cn) (hm : cn ≤ maxLen) (hz : An = none → z = 0 ∧ cn = 0)
    (hrow : w1.ownsRow W.heap.size 9 1 (.slice An z cn) z (x.2.map Value.string)) {g cap : Nat}
    (hown : w2.ownsRow (go + 1) 61 2 (.slice (some ⟨g, 0, none⟩) (k + 1) cap) (k + 1) (recCells RI ++ [.string x.1, .slice An z cn])) (hg : (w1.alloc (.cells #[.string x.1, .slice An z cn] 61)).grownBy w2 v1.ownBlock) (hat : v1.ownBlock = some g ∨ g = w1.heap.size + 1) :
    OwnInv ws d go v0 (.slice (some ⟨g, 0, none⟩) (k + 1) cap) v2 v5 v6 n0 (k + 1) n2 n5 n6 l0 l2 l5 l6 (RI ++ [(x.1, .slice An z cn)]) (w2.setCell ⟨go, 1, none⟩ (.slice (some ⟨g, 0, none⟩) (k + 1) cap)) ∧ w2.cell? ⟨go, 1, none⟩ = some v1 ∧ w2.frozen? ⟨go, 1, none⟩ = false := by
  subst hzx
  have hgo := h0.blk.lt
  have h2 := h1.grown ((Below.refl w1.heap.size w1).alloc (Nat.le_refl _) (.cells #[.string x.1, .slice An x.2.length cn] 61))
  have hblk : Blk w2 go 29 #[v0, v1, v2, .string d.sys, .string d.bld, v5, v6] := (hg.block go h2.blk.lt (fun e => by
    have := own_lt h2.r1 e.symm
    omega)).trans h2.blk
  exact ⟨h2.put1 hx hc hm hz (own_weaken (hrow.alloc _) (by omega)) (apart_above hrow h0.r1 (Nat.le_refl _)) hown hg hat (World.size_alloc _ _), hblk.cell 1, hblk.frozen 1⟩
theorem OwnInv.drvAt {B0 B1 B2 B5 B6 : Option Addr} {e0 e1 e2 e5 e6 : Nat} (h : OwnInv ws d go (.slice B0 n0 e0) (.slice B1 k e1) (.slice B2 n2 e2) (.slice B5 n5 e5) (.slice B6 n6 e6) n0 k n2 n5 n6 d.outs d.srcs d.args d.env RI W)
    (h0 : n0 = d.outs.length) (h1 : k = d.ins.length) (h2 : n2 = d.srcs.length) (h5 : n5 = d.args.length) (h6 : n6 = d.env.length) : DrvAt W d ⟨B0, B1, B2, B5, B6, e0, e1, e2, e5, e6⟩ := by
  have q : ∀ {b : Nat} {e : TypeId} {s : Nat} {A : Option Addr} {n c : Nat} {xs : List Value}, W.ownsRow b e s (.slice A n c) n xs → n ≤ c ∧ c ≤ maxLen ∧ (A = none → n = 0 ∧ c = 0) := fun hr => by
    obtain ⟨A', c', e, q1, q2, q3, _⟩ := row_form hr
    injection e with e1 e2 e3
    subst e1 e3
    exact ⟨q1, q2, q3⟩
  have q0 := q h.r0
  have q1 := q h.r1
  have q2 := q h.r2
  have q5 := q h.r5
  have q6 := q h.r6
  subst h0 h1 h2 h5 h6
  refine ⟨owned_outs rfl h.r0, fun j x hj => ?_, owned_strs2 rfl h.r2, owned_strs2 rfl h.r5, owned_pairs rfl h.r6, q0.1, q1.1, q2.1, q5.1, q6.1, q0.2.1, q1.2.1, q2.2.1, q5.2.1, q6.2.1, q0.2.2, q2.2.2, q5.2.2, q6.2.2⟩
  have hjl := (List.getElem?_eq_some_iff.1 hj).1
  obtain ⟨r, hr⟩ : ∃ r, RI[j]? = some r := ⟨_, List.getElem?_eq_getElem (by rw [h.lenI]; exact hjl)⟩
  obtain ⟨x', An, cn, r1, rfl, r3, r4, r5, r6, _⟩ := h.recs j r hr
  rw [hj] at r1
  injection r1 with r1
  subst r1
  obtain ⟨g, cap, e, _, _⟩ := h.r1.form (by omega)
  injection e with e1 e2 e3
  subst e1 e3
  have hc := recCells_at RI j _ hr
  exact ⟨g, 0, An, cn, rfl, by rw [Nat.zero_add]; exact (h.r1.cellAt (j * 2) (by omega)).trans hc.1, by rw [Nat.zero_add]; exact (h.r1.cellAt (j * 2 + 1) (by omega)).trans hc.2, r3, r4, owned_strs2 rfl r6, r5⟩
end
end Go.Proofs.YtbldognffppeiaaDoor
