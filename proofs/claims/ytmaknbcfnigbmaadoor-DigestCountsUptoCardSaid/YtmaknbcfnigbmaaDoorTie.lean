/-
  DERIVED. GIVEN WITH THE SEED: THE PROGRAM's TIES (one call each: nine closed facts by the kernel) AND EACH ROW's TIE, after the 31st guide's Derived/Test/Toyas{Tie, Card}.lean. No idea stands in it: it is a product of the set-up. Laid BY PROGRAM, IN A SANDBOX (cutbox-door.mjs). By AI agents, Wed Nov 11 2026. No macro, syntax, notation, axiom, sorry.
-/
import Derived.Test.YtmaknbcfnigbmaaDoorRows
import Derived.LaidByTextLater
import Derived.SevenTiedAt
import Derived.LaidSub
import Derived.LaidOnce
namespace Go.Proofs.YtmaknbcfnigbmaaDoor
open Go
set_option maxRecDepth 100000
theorem seatTie1 : Tryd.prog.laidByTextLater [("stillroom/bits.tails", Rows.laid_stillroom_bits_tails), ("stillroom/digest.cubes", Rows.laid_stillroom_digest_cubes), ("stillroom/digest.squares", Rows.laid_stillroom_digest_squares), ("stillroom/path.ranges", Rows.laid_stillroom_path_ranges)] [.data, .data, .data, .data] true :=
  Program.laidByTextLater_by_one 36 8 65 (by kernel_rfl) (by kernel_rfl) (by kernel_rfl) (by kernel_rfl) (by kernel_rfl) (by kernel_rfl) (fun _ _ => by kernel_rfl)
theorem noOwnUnsafe : Tryd.pinned.checked.prog.headLifts.contains "ownunsafe" = false := by kernel_rfl
theorem tie : Tryd.prog.laidByTextLater [("stillroom/bits.tails", Rows.laid_stillroom_bits_tails)] [.data] true :=
  Program.laidByTextLater.sub seatTie1 ["stillroom/bits.tails"] (by kernel_rfl) (by kernel_rfl)
theorem bitsSigns_row_tie : Rows.bitsSignsRow.laidByTextAt .later Tryd.pinned [.data] true :=
  OpenClaim.laidByTextAt_later rfl rfl tie noOwnUnsafe
theorem bitsBack_row_tie : Rows.bitsBackRow.laidByTextAt .later Tryd.pinned [.data] true :=
  OpenClaim.laidByTextAt_later rfl rfl tie noOwnUnsafe
theorem digestParses_row_tie : Rows.digestParsesRow.laidByTextAt .later Tryd.pinned [.data] true :=
  OpenClaim.laidByTextAt_later rfl rfl tie noOwnUnsafe
theorem digestBack_row_tie : Rows.digestBackRow.laidByTextAt .later Tryd.pinned [.data] true :=
  OpenClaim.laidByTextAt_later rfl rfl tie noOwnUnsafe
theorem tie2 : Tryd.prog.laidByTextLater [("stillroom/bits.tails", Rows.laid_stillroom_bits_tails), ("stillroom/path.ranges", Rows.laid_stillroom_path_ranges)] [.data, .data] true :=
  Program.laidByTextLater.sub seatTie1 ["stillroom/bits.tails", "stillroom/path.ranges"] (by kernel_rfl) (by kernel_rfl)
theorem pathSplits_row_tie : Rows.pathSplitsRow.laidByTextAt .later Tryd.pinned [.data, .data] true :=
  OpenClaim.laidByTextAt_later rfl rfl tie2 noOwnUnsafe
theorem tie3 : Tryd.prog.laidByTextLater [("stillroom/digest.cubes", Rows.laid_stillroom_digest_cubes), ("stillroom/digest.squares", Rows.laid_stillroom_digest_squares)] [.data, .data] true :=
  Program.laidByTextLater.sub seatTie1 ["stillroom/digest.cubes", "stillroom/digest.squares"] (by kernel_rfl) (by kernel_rfl)
theorem digestCounts_row_tie : Rows.digestCountsRow.laidByTextAt .later Tryd.pinned [.data, .data] true :=
  OpenClaim.laidByTextAt_later rfl rfl tie3 noOwnUnsafe
theorem digestSums_row_tie : Rows.digestSumsRow.laidByTextAt .later Tryd.pinned [.data, .data] true :=
  OpenClaim.laidByTextAt_later rfl rfl tie3 noOwnUnsafe
theorem tie4 : Tryd.prog.laidByTextLater [("stillroom/digest.cubes", Rows.laid_stillroom_digest_cubes), ("stillroom/digest.squares", Rows.laid_stillroom_digest_squares), ("stillroom/path.ranges", Rows.laid_stillroom_path_ranges)] [.data, .data, .data] true :=
  Program.laidByTextLater.sub seatTie1 ["stillroom/digest.cubes", "stillroom/digest.squares", "stillroom/path.ranges"] (by kernel_rfl) (by kernel_rfl)
theorem pathMakes_row_tie : Rows.pathMakesRow.laidByTextAt .later Tryd.pinned [.data, .data, .data] true :=
  OpenClaim.laidByTextAt_later rfl rfl tie4 noOwnUnsafe
theorem tie5 : Tryd.prog.laidByTextLater [("stillroom/bits.tails", Rows.laid_stillroom_bits_tails), ("stillroom/digest.cubes", Rows.laid_stillroom_digest_cubes), ("stillroom/digest.squares", Rows.laid_stillroom_digest_squares), ("stillroom/path.ranges", Rows.laid_stillroom_path_ranges)] [.data, .data, .data, .data] true :=
  Program.laidByTextLater.sub seatTie1 ["stillroom/bits.tails", "stillroom/digest.cubes", "stillroom/digest.squares", "stillroom/path.ranges"] (by kernel_rfl) (by kernel_rfl)
theorem pathApart_row_tie : Rows.pathApartRow.laidByTextAt .later Tryd.pinned [.data, .data, .data, .data] true :=
  OpenClaim.laidByTextAt_later rfl rfl tie5 noOwnUnsafe
theorem pathBack_row_tie : Rows.pathBackRow.laidByTextAt .later Tryd.pinned [.data, .data, .data, .data] true :=
  OpenClaim.laidByTextAt_later rfl rfl tie5 noOwnUnsafe
theorem bitsSignsUpto_row_tie : Rows.bitsSignsUptoRow.laidByTextAt .later Tryd.pinned [.data] true :=
  OpenClaim.laidByTextAt_later rfl rfl tie noOwnUnsafe
theorem bitsBackUpto_row_tie : Rows.bitsBackUptoRow.laidByTextAt .later Tryd.pinned [.data] true :=
  OpenClaim.laidByTextAt_later rfl rfl tie noOwnUnsafe
theorem pathSplitsUpto_row_tie : Rows.pathSplitsUptoRow.laidByTextAt .later Tryd.pinned [.data, .data] true :=
  OpenClaim.laidByTextAt_later rfl rfl tie2 noOwnUnsafe
theorem digestCountsUpto_row_tie : Rows.digestCountsUptoRow.laidByTextAt .later Tryd.pinned [.data, .data] true :=
  OpenClaim.laidByTextAt_later rfl rfl tie3 noOwnUnsafe
theorem digestParsesUpto_row_tie : Rows.digestParsesUptoRow.laidByTextAt .later Tryd.pinned [.data] true :=
  OpenClaim.laidByTextAt_later rfl rfl tie noOwnUnsafe
theorem digestBackUpto_row_tie : Rows.digestBackUptoRow.laidByTextAt .later Tryd.pinned [.data] true :=
  OpenClaim.laidByTextAt_later rfl rfl tie noOwnUnsafe
theorem digestSumsUpto_row_tie : Rows.digestSumsUptoRow.laidByTextAt .later Tryd.pinned [.data, .data] true :=
  OpenClaim.laidByTextAt_later rfl rfl tie3 noOwnUnsafe
theorem pathMakesUpto_row_tie : Rows.pathMakesUptoRow.laidByTextAt .later Tryd.pinned [.data, .data, .data] true :=
  OpenClaim.laidByTextAt_later rfl rfl tie4 noOwnUnsafe
theorem pathApartUpto_row_tie : Rows.pathApartUptoRow.laidByTextAt .later Tryd.pinned [.data, .data, .data, .data] true :=
  OpenClaim.laidByTextAt_later rfl rfl tie5 noOwnUnsafe
theorem pathBackUpto_row_tie : Rows.pathBackUptoRow.laidByTextAt .later Tryd.pinned [.data, .data, .data, .data] true :=
  OpenClaim.laidByTextAt_later rfl rfl tie5 noOwnUnsafe
end Go.Proofs.YtmaknbcfnigbmaaDoor
