/-
  NARROWER THAN 'FOR EVERY INPUT', by the rows' own cells (each row's printed sentence says how): AtermQuotes: laid · AtermPuts: laid · AtermSorts: laid · AtermParses: laid · AtermBack: laid.
  DERIVED. THE GIVEN ROWS OF THIS SEAT. 5 by the template 'for every input the law returns true; each argument reads behind the call as it read before'; 0 by the template 'total and deterministic' (their statements: YtbldognffppeiaaDoorTotals.lean).
  GIVEN WITH THE SEED: the statements are not yours to turn. If you find one false, say at which input.
  Laid BY PROGRAM, IN A SANDBOX (cutbox-rows.mjs): the forced cells as the released guide's own fill.sh prints them over the translation 9bfd4f6ed7739db6… (all of the seat's roots in one cut). By AI agents, Wed Nov 11 2026. No macro, syntax, notation, axiom, sorry.
-/
import Derived.Test.YtbldognffppeiaaDoorChecked
import GoSem.Claim
import GoSem.ClaimJoined
import GoSem.ClaimMapViews
import Derived.JoinedTies
import Derived.KernelRfl
namespace Go.Proofs.YtbldognffppeiaaDoor
/- THE CELL 'sum', in the pinned program and in every row, IS THE sha256 OF THE DUMP (.gsa) THAT YtbldognffppeiaaDoorProg.lean LOADS. Nothing in Lean hashes anything: it is a label: what it is worth is what the hold of that sum in a sandbox is worth. -/
noncomputable def Tryd.pinned : Pinned := { name := "ytbldognffppeiaadoor", sum := "9bfd4f6ed7739db690ae4f46a7a39c267a557dc667477ad81497399f9e01e931", checked := Tryd.checked }
namespace Rows
def none {H : Type} : Left H := { results := [], args := [] }

/- WHAT THE LISTED PACKAGE-LEVEL VARIABLES READ AS WHEN THE CALL BEGINS. Each datum BY PROGRAM (the guide's laid-datum.mjs) off the statement by which the dump's own 'gosem.cut.vars' lays the variable. In a bare row this is a premise. The card (YtbldognffppeiaaDoorCards.lean) ties it to the program's text. -/
def laid_stillroom_aterm_plain {H : Type} : DataW H := .agg [.lit (.int .u8 34), .lit (.int .u8 92), .lit (.int .u8 10), .lit (.int .u8 13), .lit (.int .u8 9)]
def laid_stillroom_aterm_signs {H : Type} : DataW H := .agg [.lit (.int .u8 34), .lit (.int .u8 92), .lit (.int .u8 110), .lit (.int .u8 114), .lit (.int .u8 116)]
def laid_errors_errorType {H : Type} : DataW H := .iface "internal/reflectlite.rtype" (.agg [.ptr (.lit (.string [101, 114, 114, 111, 114]))])

/-- 'stillroomlaw08.AtermQuotes': WHATEVER THE INPUT: true; the input reads as it did. -/
def atermQuotesSpec : ChangeSpec := { name := "atermQuotes", fn := fun _ => fun
  | [d1, d2] => { results := [.lit (.bool true)], args := [d1, d2] }
  | _ => none }
def atermQuotesRow : OpenClaim := { program := "ytbldognffppeiaadoor", sum := "9bfd4f6ed7739db690ae4f46a7a39c267a557dc667477ad81497399f9e01e931", func := "stillroom/stillroomlaw08.AtermQuotes", spec := "atermQuotes", inPlace := ["internal/abi.NoEscape"], named := ["stillroom/aterm.plain", "stillroom/aterm.signs"], apart := false, laid := [("stillroom/aterm.plain", laid_stillroom_aterm_plain), ("stillroom/aterm.signs", laid_stillroom_aterm_signs)] }
def AtermQuotesSaid : Prop := atermQuotesRow.holds Tryd.pinned (OpenSpec.ofChange atermQuotesSpec)

/-- ITS FALSE NEIGHBOUR: 'it returns false'. Refute it at one input. -/
def atermQuotesWrong : ChangeSpec := { name := "atermQuotes", fn := fun _ => fun
  | [d1, d2] => { results := [.lit (.bool false)], args := [d1, d2] }
  | _ => none }
def AtermQuotesWrongFalsely : Prop := atermQuotesRow.holds Tryd.pinned (OpenSpec.ofChange atermQuotesWrong)

/-- 'stillroomlaw08.AtermPuts': WHATEVER THE INPUT: true; the input reads as it did. -/
def atermPutsSpec : ChangeSpec := { name := "atermPuts", fn := fun _ => fun
  | [d] => { results := [.lit (.bool true)], args := [d] }
  | _ => none }
def atermPutsRow : OpenClaim := { program := "ytbldognffppeiaadoor", sum := "9bfd4f6ed7739db690ae4f46a7a39c267a557dc667477ad81497399f9e01e931", func := "stillroom/stillroomlaw08.AtermPuts", spec := "atermPuts", inPlace := ["internal/abi.NoEscape", "internal/bytealg.MakeNoZero"], unfollowed := true, recurses := true, named := ["stillroom/aterm.plain", "stillroom/aterm.signs"], apart := false, laid := [("stillroom/aterm.plain", laid_stillroom_aterm_plain), ("stillroom/aterm.signs", laid_stillroom_aterm_signs)] }
def AtermPutsSaid : Prop := atermPutsRow.holds Tryd.pinned (OpenSpec.ofChange atermPutsSpec)

/-- ITS FALSE NEIGHBOUR: 'it returns false'. Refute it at one input. -/
def atermPutsWrong : ChangeSpec := { name := "atermPuts", fn := fun _ => fun
  | [d] => { results := [.lit (.bool false)], args := [d] }
  | _ => none }
def AtermPutsWrongFalsely : Prop := atermPutsRow.holds Tryd.pinned (OpenSpec.ofChange atermPutsWrong)

/-- 'stillroomlaw08.AtermSorts': WHATEVER THE INPUT: true; the input reads as it did. -/
def atermSortsSpec : ChangeSpec := { name := "atermSorts", fn := fun _ => fun
  | [d1, d2] => { results := [.lit (.bool true)], args := [d1, d2] }
  | _ => none }
def atermSortsRow : OpenClaim := { program := "ytbldognffppeiaadoor", sum := "9bfd4f6ed7739db690ae4f46a7a39c267a557dc667477ad81497399f9e01e931", func := "stillroom/stillroomlaw08.AtermSorts", spec := "atermSorts", inPlace := ["internal/abi.NoEscape", "internal/bytealg.MakeNoZero"], unfollowed := true, recurses := true, named := ["stillroom/aterm.plain", "stillroom/aterm.signs"], apart := false, laid := [("stillroom/aterm.plain", laid_stillroom_aterm_plain), ("stillroom/aterm.signs", laid_stillroom_aterm_signs)] }
def AtermSortsSaid : Prop := atermSortsRow.holds Tryd.pinned (OpenSpec.ofChange atermSortsSpec)

/-- ITS FALSE NEIGHBOUR: 'it returns false'. Refute it at one input. -/
def atermSortsWrong : ChangeSpec := { name := "atermSorts", fn := fun _ => fun
  | [d1, d2] => { results := [.lit (.bool false)], args := [d1, d2] }
  | _ => none }
def AtermSortsWrongFalsely : Prop := atermSortsRow.holds Tryd.pinned (OpenSpec.ofChange atermSortsWrong)

/-- 'stillroomlaw08.AtermParses': WHATEVER THE INPUT: true; the input reads as it did. -/
def atermParsesSpec : ChangeSpec := { name := "atermParses", fn := fun _ => fun
  | [d] => { results := [.lit (.bool true)], args := [d] }
  | _ => none }
def atermParsesRow : OpenClaim := { program := "ytbldognffppeiaadoor", sum := "9bfd4f6ed7739db690ae4f46a7a39c267a557dc667477ad81497399f9e01e931", func := "stillroom/stillroomlaw08.AtermParses", spec := "atermParses", inPlace := ["internal/abi.NoEscape", "internal/reflectlite.ValueOf", "(internal/reflectlite.Value).Type", "(internal/reflectlite.Value).IsNil", "internal/reflectlite.TypeOf", "(internal/reflectlite.Value).Elem", "(internal/reflectlite.Value).Set"], unfollowed := true, recurses := true, named := ["stillroom/aterm.plain", "stillroom/aterm.signs", "errors.errorType"], apart := false, laid := [("errors.errorType", laid_errors_errorType), ("stillroom/aterm.plain", laid_stillroom_aterm_plain), ("stillroom/aterm.signs", laid_stillroom_aterm_signs)] }
def AtermParsesSaid : Prop := atermParsesRow.holds Tryd.pinned (OpenSpec.ofChange atermParsesSpec)

/-- ITS FALSE NEIGHBOUR: 'it returns false'. Refute it at one input. -/
def atermParsesWrong : ChangeSpec := { name := "atermParses", fn := fun _ => fun
  | [d] => { results := [.lit (.bool false)], args := [d] }
  | _ => none }
def AtermParsesWrongFalsely : Prop := atermParsesRow.holds Tryd.pinned (OpenSpec.ofChange atermParsesWrong)

/-- 'stillroomlaw08.AtermBack': WHATEVER THE INPUT: true; the input reads as it did. -/
def atermBackSpec : ChangeSpec := { name := "atermBack", fn := fun _ => fun
  | [d1, d2] => { results := [.lit (.bool true)], args := [d1, d2] }
  | _ => none }
def atermBackRow : OpenClaim := { program := "ytbldognffppeiaadoor", sum := "9bfd4f6ed7739db690ae4f46a7a39c267a557dc667477ad81497399f9e01e931", func := "stillroom/stillroomlaw08.AtermBack", spec := "atermBack", inPlace := ["internal/abi.NoEscape", "internal/bytealg.MakeNoZero", "internal/reflectlite.ValueOf", "(internal/reflectlite.Value).Type", "(internal/reflectlite.Value).IsNil", "internal/reflectlite.TypeOf", "(internal/reflectlite.Value).Elem", "(internal/reflectlite.Value).Set"], unfollowed := true, recurses := true, named := ["stillroom/aterm.plain", "stillroom/aterm.signs", "errors.errorType"], apart := false, laid := [("errors.errorType", laid_errors_errorType), ("stillroom/aterm.plain", laid_stillroom_aterm_plain), ("stillroom/aterm.signs", laid_stillroom_aterm_signs)] }
def AtermBackSaid : Prop := atermBackRow.holds Tryd.pinned (OpenSpec.ofChange atermBackSpec)

/-- ITS FALSE NEIGHBOUR: 'it returns false'. Refute it at one input. -/
def atermBackWrong : ChangeSpec := { name := "atermBack", fn := fun _ => fun
  | [d1, d2] => { results := [.lit (.bool false)], args := [d1, d2] }
  | _ => none }
def AtermBackWrongFalsely : Prop := atermBackRow.holds Tryd.pinned (OpenSpec.ofChange atermBackWrong)

/- THE SECOND FORM. 'bulk': how many values and letters a reading holds, each counted each time it is reached (what is shared counts as often as it is met; a slice's spare places count too). A statement '..UptoSaid' is the law's where the arguments, and the package variables that the reading takes, are together of bulk at most 1048576: NARROWER than '..Said'. Prove '..Said' where nothing that the law and all that it calls make is longer than what came in: it says more and counts as full. Else prove '..UptoSaid'. A law counts once. -/
mutual
def uptoBulk {H : Type} : DataW H → Nat
  | .lit (.string bytes) => bytes.length + 1
  | .lit _ => 1
  | .nil => 1
  | .ptr d => uptoBulk d + 1
  | .slice elems spare => uptoBulkAll elems + uptoBulkAll spare + 1
  | .agg parts => uptoBulkAll parts + 1
  | .iface _ d => uptoBulk d + 1
  | .map entries => uptoBulkEntries entries + 1
  | .held _ => 1
def uptoBulkAll {H : Type} : List (DataW H) → Nat
  | [] => 0
  | d :: r => uptoBulk d + uptoBulkAll r
def uptoBulkEntries {H : Type} : List (Lit × DataW H) → Nat
  | [] => 0
  | x :: r => uptoBulkEntry x + uptoBulkEntries r
def uptoBulkEntry {H : Type} : Lit × DataW H → Nat
  | (.string bytes, d) => bytes.length + uptoBulk d + 1
  | (_, d) => uptoBulk d + 1
 end
def uptoSmall : (H : Type) → List (DataW H) → Bool := fun _ ds => decide (uptoBulkAll ds ≤ 1048576)
def OpenSpec.upto (s : _root_.Go.ChangeSpec) : _root_.Go.OpenSpec := { _root_.Go.OpenSpec.ofChange s with cond := some uptoSmall }

/-- 'stillroomlaw08.AtermQuotes', WHERE WHAT IT READS IS OF BULK AT MOST 1048576: true; the input reads as it did. -/
def atermQuotesUptoRow : OpenClaim := { program := "ytbldognffppeiaadoor", sum := "9bfd4f6ed7739db690ae4f46a7a39c267a557dc667477ad81497399f9e01e931", func := "stillroom/stillroomlaw08.AtermQuotes", spec := "atermQuotes", inPlace := ["internal/abi.NoEscape"], named := ["stillroom/aterm.plain", "stillroom/aterm.signs"], apart := false, laid := [("stillroom/aterm.plain", laid_stillroom_aterm_plain), ("stillroom/aterm.signs", laid_stillroom_aterm_signs)], narrowed := true }
def AtermQuotesUptoSaid : Prop := atermQuotesUptoRow.holds Tryd.pinned (OpenSpec.upto atermQuotesSpec)

/-- 'stillroomlaw08.AtermPuts', WHERE WHAT IT READS IS OF BULK AT MOST 1048576: true; the input reads as it did. -/
def atermPutsUptoRow : OpenClaim := { program := "ytbldognffppeiaadoor", sum := "9bfd4f6ed7739db690ae4f46a7a39c267a557dc667477ad81497399f9e01e931", func := "stillroom/stillroomlaw08.AtermPuts", spec := "atermPuts", inPlace := ["internal/abi.NoEscape", "internal/bytealg.MakeNoZero"], unfollowed := true, recurses := true, named := ["stillroom/aterm.plain", "stillroom/aterm.signs"], apart := false, laid := [("stillroom/aterm.plain", laid_stillroom_aterm_plain), ("stillroom/aterm.signs", laid_stillroom_aterm_signs)], narrowed := true }
def AtermPutsUptoSaid : Prop := atermPutsUptoRow.holds Tryd.pinned (OpenSpec.upto atermPutsSpec)

/-- 'stillroomlaw08.AtermSorts', WHERE WHAT IT READS IS OF BULK AT MOST 1048576: true; the input reads as it did. -/
def atermSortsUptoRow : OpenClaim := { program := "ytbldognffppeiaadoor", sum := "9bfd4f6ed7739db690ae4f46a7a39c267a557dc667477ad81497399f9e01e931", func := "stillroom/stillroomlaw08.AtermSorts", spec := "atermSorts", inPlace := ["internal/abi.NoEscape", "internal/bytealg.MakeNoZero"], unfollowed := true, recurses := true, named := ["stillroom/aterm.plain", "stillroom/aterm.signs"], apart := false, laid := [("stillroom/aterm.plain", laid_stillroom_aterm_plain), ("stillroom/aterm.signs", laid_stillroom_aterm_signs)], narrowed := true }
def AtermSortsUptoSaid : Prop := atermSortsUptoRow.holds Tryd.pinned (OpenSpec.upto atermSortsSpec)

/-- 'stillroomlaw08.AtermParses', WHERE WHAT IT READS IS OF BULK AT MOST 1048576: true; the input reads as it did. -/
def atermParsesUptoRow : OpenClaim := { program := "ytbldognffppeiaadoor", sum := "9bfd4f6ed7739db690ae4f46a7a39c267a557dc667477ad81497399f9e01e931", func := "stillroom/stillroomlaw08.AtermParses", spec := "atermParses", inPlace := ["internal/abi.NoEscape", "internal/reflectlite.ValueOf", "(internal/reflectlite.Value).Type", "(internal/reflectlite.Value).IsNil", "internal/reflectlite.TypeOf", "(internal/reflectlite.Value).Elem", "(internal/reflectlite.Value).Set"], unfollowed := true, recurses := true, named := ["stillroom/aterm.plain", "stillroom/aterm.signs", "errors.errorType"], apart := false, laid := [("errors.errorType", laid_errors_errorType), ("stillroom/aterm.plain", laid_stillroom_aterm_plain), ("stillroom/aterm.signs", laid_stillroom_aterm_signs)], narrowed := true }
def AtermParsesUptoSaid : Prop := atermParsesUptoRow.holds Tryd.pinned (OpenSpec.upto atermParsesSpec)

/-- 'stillroomlaw08.AtermBack', WHERE WHAT IT READS IS OF BULK AT MOST 1048576: true; the input reads as it did. -/
def atermBackUptoRow : OpenClaim := { program := "ytbldognffppeiaadoor", sum := "9bfd4f6ed7739db690ae4f46a7a39c267a557dc667477ad81497399f9e01e931", func := "stillroom/stillroomlaw08.AtermBack", spec := "atermBack", inPlace := ["internal/abi.NoEscape", "internal/bytealg.MakeNoZero", "internal/reflectlite.ValueOf", "(internal/reflectlite.Value).Type", "(internal/reflectlite.Value).IsNil", "internal/reflectlite.TypeOf", "(internal/reflectlite.Value).Elem", "(internal/reflectlite.Value).Set"], unfollowed := true, recurses := true, named := ["stillroom/aterm.plain", "stillroom/aterm.signs", "errors.errorType"], apart := false, laid := [("errors.errorType", laid_errors_errorType), ("stillroom/aterm.plain", laid_stillroom_aterm_plain), ("stillroom/aterm.signs", laid_stillroom_aterm_signs)], narrowed := true }
def AtermBackUptoSaid : Prop := atermBackUptoRow.holds Tryd.pinned (OpenSpec.upto atermBackSpec)

end Rows
end Go.Proofs.YtbldognffppeiaaDoor
