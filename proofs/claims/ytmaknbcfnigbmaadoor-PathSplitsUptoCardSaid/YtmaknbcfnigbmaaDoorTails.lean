/- The table of the counts, as the rows lay it. -/
import Derived.Test.YtmaknbcfnigbmaaDoorWalkDecode
import Derived.Lib.LaidTab
namespace Go.Proofs.YtmaknbcfnigbmaaDoor
open Go.RowKit Sig
theorem tails_of {W : World} (h : Lib.TabIs Tryd.prog W "stillroom/bits.tails" .i64 [0, 2, 4, 5, 7]) : Tails W := by
  intro r hr
  have := h.cell (g := 0) (by kernel_rfl) r (by simpa using hr)
  rw [this]
  have : r = 0 ∨ r = 1 ∨ r = 2 ∨ r = 3 ∨ r = 4 := by omega
  rcases this with rfl | rfl | rfl | rfl | rfl <;> rfl
end Go.Proofs.YtmaknbcfnigbmaaDoor
