/-
  DERIVED. GIVEN WITH THE SEED: THE PROGRAM's TIES (one call each: nine closed facts by the kernel) AND EACH ROW's TIE, after the 31st guide's Derived/Test/Toyas{Tie, Card}.lean. No idea stands in it: it is a product of the set-up. Laid BY PROGRAM, IN A SANDBOX (cutbox-door.mjs). By AI agents, Wed Nov 11 2026. No macro, syntax, notation, axiom, sorry.
-/
import Derived.Test.YtbldognffppeiaaDoorRows
import Derived.LaidByTextLater
import Derived.SevenTiedAt
import Derived.LaidSub
import Derived.LaidOnce
namespace Go.Proofs.YtbldognffppeiaaDoor
open Go
set_option maxRecDepth 100000
theorem seatTie1 : Tryd.prog.laidByTextLater [("errors.errorType", Rows.laid_errors_errorType), ("stillroom/aterm.plain", Rows.laid_stillroom_aterm_plain), ("stillroom/aterm.signs", Rows.laid_stillroom_aterm_signs)] [.handle, .widerDeep, .widerDeep] true :=
  Program.laidByTextLater_by_one 26 8 6 (by kernel_rfl) (by kernel_rfl) (by kernel_rfl) (by kernel_rfl) (by kernel_rfl) (by kernel_rfl) (fun _ _ => by kernel_rfl)
theorem noOwnUnsafe : Tryd.pinned.checked.prog.headLifts.contains "ownunsafe" = false := by kernel_rfl
theorem tie : Tryd.prog.laidByTextLater [("stillroom/aterm.plain", Rows.laid_stillroom_aterm_plain), ("stillroom/aterm.signs", Rows.laid_stillroom_aterm_signs)] [.widerDeep, .widerDeep] true :=
  Program.laidByTextLater.sub seatTie1 ["stillroom/aterm.plain", "stillroom/aterm.signs"] (by kernel_rfl) (by kernel_rfl)
theorem atermQuotes_row_tie : Rows.atermQuotesRow.laidByTextAt .later Tryd.pinned [.widerDeep, .widerDeep] true :=
  OpenClaim.laidByTextAt_later rfl rfl tie noOwnUnsafe
theorem atermPuts_row_tie : Rows.atermPutsRow.laidByTextAt .later Tryd.pinned [.widerDeep, .widerDeep] true :=
  OpenClaim.laidByTextAt_later rfl rfl tie noOwnUnsafe
theorem atermSorts_row_tie : Rows.atermSortsRow.laidByTextAt .later Tryd.pinned [.widerDeep, .widerDeep] true :=
  OpenClaim.laidByTextAt_later rfl rfl tie noOwnUnsafe
theorem tie2 : Tryd.prog.laidByTextLater [("errors.errorType", Rows.laid_errors_errorType), ("stillroom/aterm.plain", Rows.laid_stillroom_aterm_plain), ("stillroom/aterm.signs", Rows.laid_stillroom_aterm_signs)] [.handle, .widerDeep, .widerDeep] true :=
  Program.laidByTextLater.sub seatTie1 ["errors.errorType", "stillroom/aterm.plain", "stillroom/aterm.signs"] (by kernel_rfl) (by kernel_rfl)
theorem atermParses_row_tie : Rows.atermParsesRow.laidByTextAt .later Tryd.pinned [.handle, .widerDeep, .widerDeep] true :=
  OpenClaim.laidByTextAt_later rfl rfl tie2 noOwnUnsafe
theorem atermBack_row_tie : Rows.atermBackRow.laidByTextAt .later Tryd.pinned [.handle, .widerDeep, .widerDeep] true :=
  OpenClaim.laidByTextAt_later rfl rfl tie2 noOwnUnsafe
theorem atermQuotesUpto_row_tie : Rows.atermQuotesUptoRow.laidByTextAt .later Tryd.pinned [.widerDeep, .widerDeep] true :=
  OpenClaim.laidByTextAt_later rfl rfl tie noOwnUnsafe
theorem atermPutsUpto_row_tie : Rows.atermPutsUptoRow.laidByTextAt .later Tryd.pinned [.widerDeep, .widerDeep] true :=
  OpenClaim.laidByTextAt_later rfl rfl tie noOwnUnsafe
theorem atermSortsUpto_row_tie : Rows.atermSortsUptoRow.laidByTextAt .later Tryd.pinned [.widerDeep, .widerDeep] true :=
  OpenClaim.laidByTextAt_later rfl rfl tie noOwnUnsafe
theorem atermParsesUpto_row_tie : Rows.atermParsesUptoRow.laidByTextAt .later Tryd.pinned [.handle, .widerDeep, .widerDeep] true :=
  OpenClaim.laidByTextAt_later rfl rfl tie2 noOwnUnsafe
theorem atermBackUpto_row_tie : Rows.atermBackUptoRow.laidByTextAt .later Tryd.pinned [.handle, .widerDeep, .widerDeep] true :=
  OpenClaim.laidByTextAt_later rfl rfl tie2 noOwnUnsafe
end Go.Proofs.YtbldognffppeiaaDoor
