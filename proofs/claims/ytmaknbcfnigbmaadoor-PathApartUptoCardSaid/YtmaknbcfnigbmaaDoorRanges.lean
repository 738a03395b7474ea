/- The table of the ranges, as the rows lay it. -/
import Derived.Test.YtmaknbcfnigbmaaDoorWalkName
set_option linter.unusedSimpArgs false
set_option linter.unusedVariables false
namespace Go.Proofs.YtmaknbcfnigbmaaDoor
open Go.RowKit Sig
theorem ranges_of {W : World} (h : ∀ (i j : Nat) (row : List Int) (z : Int), ([[97, 122], [65, 90], [48, 57], [43, 43], [45, 45], [46, 46], [95, 95]] : List (List Int))[i]? = some row → row[j]? = some z → j < 2 → W.cell? ⟨2, i * 2 + j, none⟩ = some (.int .u8 z)) : Ranges W := by
  intro j v hj
  have hlt : j < 14 := by
    have := (List.getElem?_eq_some_iff.1 hj).1
    rw [Lib.byteCells_length] at this
    exact this
  rw [Nat.zero_add]
  rcases (by omega : j = 0 ∨ j = 1 ∨ j = 2 ∨ j = 3 ∨ j = 4 ∨ j = 5 ∨ j = 6 ∨ j = 7 ∨ j = 8 ∨ j = 9 ∨ j = 10 ∨ j = 11 ∨ j = 12 ∨ j = 13) with rfl | rfl | rfl | rfl | rfl | rfl | rfl | rfl | rfl | rfl | rfl | rfl | rfl | rfl <;> (simp [rangeB, Lib.byteCells] at hj; subst hj)
  · exact h 0 0 _ _ rfl rfl (by decide)
  · exact h 0 1 _ _ rfl rfl (by decide)
  · exact h 1 0 _ _ rfl rfl (by decide)
  · exact h 1 1 _ _ rfl rfl (by decide)
  · exact h 2 0 _ _ rfl rfl (by decide)
  · exact h 2 1 _ _ rfl rfl (by decide)
  · exact h 3 0 _ _ rfl rfl (by decide)
  · exact h 3 1 _ _ rfl rfl (by decide)
  · exact h 4 0 _ _ rfl rfl (by decide)
  · exact h 4 1 _ _ rfl rfl (by decide)
  · exact h 5 0 _ _ rfl rfl (by decide)
  · exact h 5 1 _ _ rfl rfl (by decide)
  · exact h 6 0 _ _ rfl rfl (by decide)
  · exact h 6 1 _ _ rfl rfl (by decide)
end Go.Proofs.YtmaknbcfnigbmaaDoor
