/- A list that is read: the plain steps. -/
import Derived.Test.YtbldognffppeiaaDoorAtQuoted
import Derived.Deep.AppendLies
namespace Go.Proofs.YtbldognffppeiaaDoor
open Go.RowKit Quo
set_option linter.unusedSimpArgs false
set_option linter.unusedVariables false
theorem rd_less {α : Type} {rd : List UInt8 → Option (α × List UInt8)} {tell : α → List UInt8} (h : Reads rd tell) {l : List UInt8} {p : α × List UInt8} (e : rd l = some p) : l.length = (tell p.1).length + p.2.length := by
  have := (h l p.1 p.2).1 e
  rw [this, List.length_append]
theorem eat_less {w l r : List UInt8} (e : eat w l = some r) : l.length = w.length + r.length := by
  rw [(eat_iff _ _ _).1 e, List.length_append]
/-- What a list's reader has still to say. -/
def EachSays {α : Type} (rd : List UInt8 → Option (α × List UInt8)) (R : Option (List α × List UInt8)) (acc : List α) (sr : Option (List UInt8)) : Prop :=
  match sr with
  | none => R = none
  | some l => ∃ f, l.length < f ∧ R = (eachF rd f acc.isEmpty l).map fun p => (acc ++ p.1, p.2)
/-- The separator passed by. -/
def sepR {α : Type} (acc : List α) (l : List UInt8) : Option (List UInt8) := if acc.isEmpty then some l else eat [44] l
section
variable {α : Type} {rd : List UInt8 → Option (α × List UInt8)} {R : Option (List α × List UInt8)} {acc : List α} {l l2 r : List UInt8}
theorem EachSays.start (h : (eachF rd (l.length + 1) true l) = R) : EachSays rd R [] (some l) := ⟨l.length + 1, Nat.lt_succ_self _, by rw [← h]; show _ = (eachF rd (l.length + 1) true l).map _; cases eachF rd (l.length + 1) true l <;> simp⟩
theorem EachSays.ends (h : EachSays rd R acc (some (93 :: r))) : R = some (acc, r) := by
  obtain ⟨f, hf, h⟩ := h
  obtain ⟨f, rfl⟩ : ∃ k, f = k + 1 := ⟨f - 1, by simp at hf; omega⟩
  rw [h]
  unfold eachF
  rw [if_pos (by simp [List.isPrefixOf])]
  simp
theorem EachSays.unfolds (h : EachSays rd R acc (some l)) (hp : [93].isPrefixOf l = false) : ∃ f, l.length < f + 1 ∧ R = (((sepR acc l).bind rd).bind fun p => (eachF rd f false p.2).map fun q => (p.1 :: q.1, q.2)).map fun p => (acc ++ p.1, p.2) := by
  obtain ⟨f, hf, h⟩ := h
  obtain ⟨f, rfl⟩ : ∃ k, f = k + 1 := ⟨f - 1, by omega⟩
  refine ⟨f, hf, ?_⟩
  have e : eachF rd (f + 1) acc.isEmpty l = ((if acc.isEmpty then some l else eat [44] l).bind rd).bind fun p => (eachF rd f false p.2).map fun q => (p.1 :: q.1, q.2) := by
    rw [eachF.eq_2, if_neg (by rw [hp]; decide)]
  rw [h, e]
  rfl
theorem EachSays.noSep (h : EachSays rd R acc (some l)) (hp : [93].isPrefixOf l = false) (hs : sepR acc l = none) : R = none := by
  obtain ⟨f, _, h⟩ := h.unfolds hp
  rw [h, hs]
  rfl
theorem EachSays.noElem (h : EachSays rd R acc (some l)) (hp : [93].isPrefixOf l = false) (hs : sepR acc l = some l2) (he : rd l2 = none) : R = none := by
  obtain ⟨f, _, h⟩ := h.unfolds hp
  rw [h, hs]
  show Option.map _ ((rd l2).bind _) = none
  rw [he]
  rfl
theorem EachSays.more {tell : α → List UInt8} (hr : Reads rd tell) (hne : ∀ x, ∃ c t, tell x = c :: t ∧ c ≠ 93) (h : EachSays rd R acc (some l)) (hp : [93].isPrefixOf l = false) (hs : sepR acc l = some l2) {x : α} (he : rd l2 = some (x, r)) : EachSays rd R (acc ++ [x]) (some r) ∧ r.length < l.length := by
  obtain ⟨f, hf, h⟩ := h.unfolds hp
  have h1 := rd_less hr he
  obtain ⟨c, t, hc, _⟩ := hne x
  have h2 : l2.length ≤ l.length := by
    unfold sepR at hs
    split at hs
    · injection hs with hs; rw [hs]; exact Nat.le_refl _
    · rw [eat_less hs]; omega
  have h3 : r.length < l2.length := by
    rw [h1, hc]
    simp only [List.length_cons]
    omega
  refine ⟨⟨f, by omega, ?_⟩, by omega⟩
  rw [h, hs]
  show Option.map _ ((rd l2).bind _) = _
  rw [he]
  have e : (acc ++ [x]).isEmpty = false := by cases acc <;> rfl
  rw [e]
  show Option.map _ (Option.map _ (eachF rd f false r)) = _
  cases eachF rd f false r <;> simp
end
theorem below_of_own {W W' : World} {bw : Nat} {e : TypeId} {s : Nat} {v : Value} {n : Nat} {xs : List Value} (h : W.ownsRow bw e s v n xs) (hg : W.grownBy W' v.ownBlock) (hb : bw ≤ W.heap.size) : Below bw W W' :=
  ⟨hg.os, hg.tape, hg.output, hg.size, fun k hk => hg.block k (by omega) (fun e => by have := own_lt h e.symm; omega)⟩
theorem sepR_nil {α : Type} (l : List UInt8) : sepR ([] : List α) l = some l := rfl
theorem sepR_cons {α : Type} {acc : List α} (h : acc.length ≠ 0) (l : List UInt8) : sepR acc l = eat [44] l := by
  unfold sepR
  rw [if_neg]
  cases acc with
  | nil => exact absurd rfl h
  | cons a t => exact Bool.false_ne_true
theorem sep_len {α : Type} {acc : List α} {l l2 : List UInt8} (h : sepR acc l = some l2) : l2.length ≤ l.length := by
  unfold sepR at h
  split at h
  · injection h with h; rw [h]; exact Nat.le_refl _
  · rw [eat_less h]; omega
end Go.Proofs.YtbldognffppeiaaDoor
