/-
  DERIVED. GIVEN WITH THE SEED: THE CARDS: each row of YtbldognffppeiaaDoorRows.lean that lists a variable, with what it lists TIED to the program's text (the seventh form; the later family's looks); each row that meets fmt, with fmt's text TOLD by the authors' own Lean function (tested against real Go, not proved from fmt's source: count such statements apart). THE CARD IS WHAT COUNTS. Prove the row's statement (the work); the ties are given (YtbldognffppeiaaDoorTie.lean); close each card by the builder's one call (the guide's Derived/Test/ToyasCard.lean, 'card_holds'). Laid BY PROGRAM, IN A SANDBOX (cutbox-door.mjs). By AI agents, Wed Nov 11 2026. No macro, syntax, notation, axiom, sorry.
-/
import Derived.Test.YtbldognffppeiaaDoorRows
import GoSem.ClaimSeven
namespace Go.Proofs.YtbldognffppeiaaDoor
namespace Rows

/-- THE TIED CARD OF 'stillroomlaw08.AtermQuotes'. -/
def atermQuotesCard : Claim7 := { stood := { row := atermQuotesRow, standIns := [], harness := (true, "8da2cb4774cdb5026d363a6cc3c064320dea4574c29abeeb01dfd004ce47e234"), looks := true }, kinds := [], alts := [], laidByText := true, laidKinds := [.widerDeep, .widerDeep], laidTests := true, laidLooks := .later }
def AtermQuotesCardSaid : Prop := Claim7.holds Tryd.pinned (.plain (OpenSpec.ofChange atermQuotesSpec)) atermQuotesCard

/-- THE TIED CARD OF 'stillroomlaw08.AtermPuts'. -/
def atermPutsCard : Claim7 := { stood := { row := atermPutsRow, standIns := [], harness := (true, "8da2cb4774cdb5026d363a6cc3c064320dea4574c29abeeb01dfd004ce47e234"), looks := true }, kinds := [], alts := [], laidByText := true, laidKinds := [.widerDeep, .widerDeep], laidTests := true, laidLooks := .later }
def AtermPutsCardSaid : Prop := Claim7.holds Tryd.pinned (.plain (OpenSpec.ofChange atermPutsSpec)) atermPutsCard

/-- THE TIED CARD OF 'stillroomlaw08.AtermSorts'. -/
def atermSortsCard : Claim7 := { stood := { row := atermSortsRow, standIns := [], harness := (true, "8da2cb4774cdb5026d363a6cc3c064320dea4574c29abeeb01dfd004ce47e234"), looks := true }, kinds := [], alts := [], laidByText := true, laidKinds := [.widerDeep, .widerDeep], laidTests := true, laidLooks := .later }
def AtermSortsCardSaid : Prop := Claim7.holds Tryd.pinned (.plain (OpenSpec.ofChange atermSortsSpec)) atermSortsCard

/-- THE TIED CARD OF 'stillroomlaw08.AtermParses'. -/
def atermParsesCard : Claim7 := { stood := { row := atermParsesRow, standIns := [], harness := (true, "8da2cb4774cdb5026d363a6cc3c064320dea4574c29abeeb01dfd004ce47e234"), looks := true }, kinds := [], alts := [], laidByText := true, laidKinds := [.handle, .widerDeep, .widerDeep], laidTests := true, laidLooks := .later }
def AtermParsesCardSaid : Prop := Claim7.holds Tryd.pinned (.plain (OpenSpec.ofChange atermParsesSpec)) atermParsesCard

/-- THE TIED CARD OF 'stillroomlaw08.AtermBack'. -/
def atermBackCard : Claim7 := { stood := { row := atermBackRow, standIns := [], harness := (true, "8da2cb4774cdb5026d363a6cc3c064320dea4574c29abeeb01dfd004ce47e234"), looks := true }, kinds := [], alts := [], laidByText := true, laidKinds := [.handle, .widerDeep, .widerDeep], laidTests := true, laidLooks := .later }
def AtermBackCardSaid : Prop := Claim7.holds Tryd.pinned (.plain (OpenSpec.ofChange atermBackSpec)) atermBackCard

/-- THE SECOND FORM's CARD OF 'stillroomlaw08.AtermQuotes'. -/
def atermQuotesUptoCard : Claim7 := { stood := { row := atermQuotesUptoRow, standIns := [], harness := (true, "8da2cb4774cdb5026d363a6cc3c064320dea4574c29abeeb01dfd004ce47e234"), looks := true }, kinds := [], alts := [], laidByText := true, laidKinds := [.widerDeep, .widerDeep], laidTests := true, laidLooks := .later }
def AtermQuotesUptoCardSaid : Prop := Claim7.holds Tryd.pinned (.plain (OpenSpec.upto atermQuotesSpec)) atermQuotesUptoCard

/-- THE SECOND FORM's CARD OF 'stillroomlaw08.AtermPuts'. -/
def atermPutsUptoCard : Claim7 := { stood := { row := atermPutsUptoRow, standIns := [], harness := (true, "8da2cb4774cdb5026d363a6cc3c064320dea4574c29abeeb01dfd004ce47e234"), looks := true }, kinds := [], alts := [], laidByText := true, laidKinds := [.widerDeep, .widerDeep], laidTests := true, laidLooks := .later }
def AtermPutsUptoCardSaid : Prop := Claim7.holds Tryd.pinned (.plain (OpenSpec.upto atermPutsSpec)) atermPutsUptoCard

/-- THE SECOND FORM's CARD OF 'stillroomlaw08.AtermSorts'. -/
def atermSortsUptoCard : Claim7 := { stood := { row := atermSortsUptoRow, standIns := [], harness := (true, "8da2cb4774cdb5026d363a6cc3c064320dea4574c29abeeb01dfd004ce47e234"), looks := true }, kinds := [], alts := [], laidByText := true, laidKinds := [.widerDeep, .widerDeep], laidTests := true, laidLooks := .later }
def AtermSortsUptoCardSaid : Prop := Claim7.holds Tryd.pinned (.plain (OpenSpec.upto atermSortsSpec)) atermSortsUptoCard

/-- THE SECOND FORM's CARD OF 'stillroomlaw08.AtermParses'. -/
def atermParsesUptoCard : Claim7 := { stood := { row := atermParsesUptoRow, standIns := [], harness := (true, "8da2cb4774cdb5026d363a6cc3c064320dea4574c29abeeb01dfd004ce47e234"), looks := true }, kinds := [], alts := [], laidByText := true, laidKinds := [.handle, .widerDeep, .widerDeep], laidTests := true, laidLooks := .later }
def AtermParsesUptoCardSaid : Prop := Claim7.holds Tryd.pinned (.plain (OpenSpec.upto atermParsesSpec)) atermParsesUptoCard

/-- THE SECOND FORM's CARD OF 'stillroomlaw08.AtermBack'. -/
def atermBackUptoCard : Claim7 := { stood := { row := atermBackUptoRow, standIns := [], harness := (true, "8da2cb4774cdb5026d363a6cc3c064320dea4574c29abeeb01dfd004ce47e234"), looks := true }, kinds := [], alts := [], laidByText := true, laidKinds := [.handle, .widerDeep, .widerDeep], laidTests := true, laidLooks := .later }
def AtermBackUptoCardSaid : Prop := Claim7.holds Tryd.pinned (.plain (OpenSpec.upto atermBackSpec)) atermBackUptoCard
end Rows
end Go.Proofs.YtbldognffppeiaaDoor
