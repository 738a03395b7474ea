/- An argument that is a list of numbers, opened. -/
import Derived.Test.YtbldognffppeiaaNetState
import Derived.Test.YtbldognffppeiaaRowWords
namespace Go.Proofs.Ytbldognffppeiaa
open Go.ChangeShapes Go.WideShapes Go.ChangeAt Go.RowKit
set_option linter.unusedSimpArgs false
section
variable {H : Type} {enc : TypeId × Value → H} {P : Program} {w : World} {base : Nat} {spare : Nat → Bool} {held : Bool}
theorem open_nums {r : Reach} {b0 : Nat} {t e : TypeId} {v : Value} {d : DataW H} {ps : List MemPlace} (ht : P.underlying t = some (.slice e)) (he : P.underlying e = some (.int .i64)) (hce : P.cellsOf e = 1)
    (hval : Value.okWide P w r b0 t v) (hd : DataW.Trod enc P w base spare held t v d ps) : ∃ (A : Option Addr) (zs : List Int) (c : Nat), v = .slice A zs.length c ∧ zs.length ≤ c ∧ c ≤ maxLen ∧ (A = none → zs.length = 0 ∧ c = 0) ∧ FaultsAt w A zs := by
  obtain ⟨A, len, cap, rfl⟩ := okWide_slice ht hval
  obtain ⟨fuel, hf⟩ := hd
  rcases open_ints ht he hce hf with ⟨hcs, _⟩ | ⟨x, l, c, zs, hcs, _, hl, hm, hz, _, hcell, hwz⟩
  · simp [Value.cells] at hcs
    obtain ⟨rfl, rfl, rfl⟩ := hcs
    exact ⟨none, [], 0, rfl, Nat.le_refl _, Nat.zero_le _, fun _ => ⟨rfl, rfl⟩, fun j z hj => by simp at hj⟩
  · simp [Value.cells] at hcs
    obtain ⟨rfl, rfl, rfl⟩ := hcs
    have hz2 : zs.length = cap ∨ zs.length = len := by
      split at hz <;> simp_all
    have hlen : (zs.take len).length = len := by rw [List.length_take]; omega
    refine ⟨some x, zs.take len, cap, by rw [hlen], by rw [hlen]; exact hl, hm, (fun h => by cases h), fun j z hj => ⟨x, rfl, ?_⟩⟩
    have hj2 : j < zs.length := by
      rw [List.getElem?_take] at hj
      split at hj
      · exact (List.getElem?_eq_some_iff.1 hj).1
      · cases hj
    rw [List.getElem?_take] at hj
    split at hj
    · rw [hcell j hj2, List.getD_eq_getElem?_getD, hj]; rfl
    · cases hj
end
end Go.Proofs.Ytbldognffppeiaa
