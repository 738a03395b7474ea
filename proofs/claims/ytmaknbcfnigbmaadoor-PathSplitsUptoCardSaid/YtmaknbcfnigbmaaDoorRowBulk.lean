/- Words for the rows whose inputs are of bounded bulk: a slice of bytes is no longer than its bulk. -/
import Derived.Test.YtmaknbcfnigbmaaDoorRowWords
import Derived.Test.YtmaknbcfnigbmaaDoorCards
namespace Go.Proofs.YtmaknbcfnigbmaaDoor
open Go.ChangeShapes Go.WideShapes Go.ChangeAt Go.RowKit
section
variable {H : Type} {enc : TypeId × Value → H} {P : Program} {w : World} {base : Nat} {spare : Nat → Bool} {held : Bool}
theorem bulk_lits (k : IntKind) (xs : List Int) : Rows.uptoBulkAll (ChangeShapes.lits k xs : List (DataW H)) = xs.length := by
  induction xs with
  | nil => rfl
  | cons x xs ih =>
    show Rows.uptoBulk (.lit (.int k x) : DataW H) + Rows.uptoBulkAll (ChangeShapes.lits k xs : List (DataW H)) = _
    rw [ih]
    simp [Rows.uptoBulk]
    omega
theorem bulk_ints {t e : TypeId} {k : IntKind} {A : Option Addr} {n c : Nat} {d : DataW H} {ps : List MemPlace} (ht : P.underlying t = some (.slice e)) (he : P.underlying e = some (.int k)) (hce : P.cellsOf e = 1)
    (hd : DataW.Trod enc P w base spare held t (.slice A n c) d ps) : n < Rows.uptoBulk d := by
  obtain ⟨fuel, hf⟩ := hd
  rcases open_ints ht he hce hf with ⟨hcs, hx⟩ | ⟨x, l, c', zs, hcs, _, hl, hm, hz, hx, _, _⟩
  · simp [Value.cells] at hcs
    obtain ⟨rfl, rfl, rfl⟩ := hcs
    injection hx with h1 h2
    subst h1
    simp [Rows.uptoBulk]
  · simp [Value.cells] at hcs
    obtain ⟨rfl, rfl, rfl⟩ := hcs
    injection hx with h1 h2
    subst h1
    have hz2 : n ≤ zs.length := by
      split at hz <;> omega
    simp only [Rows.uptoBulk, bulk_lits, List.length_take]
    omega
end
end Go.Proofs.YtmaknbcfnigbmaaDoor
