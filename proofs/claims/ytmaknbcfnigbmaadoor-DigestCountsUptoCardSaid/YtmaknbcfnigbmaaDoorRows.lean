/-
  NARROWER THAN 'FOR EVERY INPUT', by the rows' own cells (each row's printed sentence says how): BitsSigns: laid · BitsBack: laid · PathSplits: laid · DigestCounts: laid · DigestParses: laid · DigestBack: laid · DigestSums: laid · PathMakes: laid · PathApart: laid · PathBack: laid.
  DERIVED. THE GIVEN ROWS OF THIS SEAT. 10 by the template 'for every input the law returns true; each argument reads behind the call as it read before'; 0 by the template 'total and deterministic' (their statements: YtmaknbcfnigbmaaDoorTotals.lean).
  GIVEN WITH THE SEED: the statements are not yours to turn. If you find one false, say at which input.
  Laid BY PROGRAM, IN A SANDBOX (cutbox-rows.mjs): the forced cells as the released guide's own fill.sh prints them over the translation 506d7f1c95e6f1a0… (all of the seat's roots in one cut). By AI agents, Wed Nov 11 2026. No macro, syntax, notation, axiom, sorry.
-/
import Derived.Test.YtmaknbcfnigbmaaDoorChecked
import GoSem.Claim
import GoSem.ClaimJoined
import GoSem.ClaimMapViews
import Derived.JoinedTies
import Derived.KernelRfl
namespace Go.Proofs.YtmaknbcfnigbmaaDoor
/- THE CELL 'sum', in the pinned program and in every row, IS THE sha256 OF THE DUMP (.gsa) THAT YtmaknbcfnigbmaaDoorProg.lean LOADS. Nothing in Lean hashes anything: it is a label: what it is worth is what the hold of that sum in a sandbox is worth. -/
noncomputable def Tryd.pinned : Pinned := { name := "ytmaknbcfnigbmaadoor", sum := "506d7f1c95e6f1a0cb0b293525dfc9c381271f383e3c937b4da46df39cc3c38c", checked := Tryd.checked }
namespace Rows
def none {H : Type} : Left H := { results := [], args := [] }

/- WHAT THE LISTED PACKAGE-LEVEL VARIABLES READ AS WHEN THE CALL BEGINS. Each datum BY PROGRAM (the guide's laid-datum.mjs) off the statement by which the dump's own 'gosem.cut.vars' lays the variable. In a bare row this is a premise. The card (YtmaknbcfnigbmaaDoorCards.lean) ties it to the program's text. -/
def laid_stillroom_bits_tails {H : Type} : DataW H := .agg [.lit (.int .i64 0), .lit (.int .i64 2), .lit (.int .i64 4), .lit (.int .i64 5), .lit (.int .i64 7)]
def laid_stillroom_path_ranges {H : Type} : DataW H := .agg [.agg [.lit (.int .u8 97), .lit (.int .u8 122)], .agg [.lit (.int .u8 65), .lit (.int .u8 90)], .agg [.lit (.int .u8 48), .lit (.int .u8 57)], .agg [.lit (.int .u8 43), .lit (.int .u8 43)], .agg [.lit (.int .u8 45), .lit (.int .u8 45)], .agg [.lit (.int .u8 46), .lit (.int .u8 46)], .agg [.lit (.int .u8 95), .lit (.int .u8 95)]]
def laid_stillroom_digest_cubes {H : Type} : DataW H := .agg [.lit (.int .u32 1116352408), .lit (.int .u32 1899447441), .lit (.int .u32 3049323471), .lit (.int .u32 3921009573), .lit (.int .u32 961987163), .lit (.int .u32 1508970993), .lit (.int .u32 2453635748), .lit (.int .u32 2870763221), .lit (.int .u32 3624381080), .lit (.int .u32 310598401), .lit (.int .u32 607225278), .lit (.int .u32 1426881987), .lit (.int .u32 1925078388), .lit (.int .u32 2162078206), .lit (.int .u32 2614888103), .lit (.int .u32 3248222580), .lit (.int .u32 3835390401), .lit (.int .u32 4022224774), .lit (.int .u32 264347078), .lit (.int .u32 604807628), .lit (.int .u32 770255983), .lit (.int .u32 1249150122), .lit (.int .u32 1555081692), .lit (.int .u32 1996064986), .lit (.int .u32 2554220882), .lit (.int .u32 2821834349), .lit (.int .u32 2952996808), .lit (.int .u32 3210313671), .lit (.int .u32 3336571891), .lit (.int .u32 3584528711), .lit (.int .u32 113926993), .lit (.int .u32 338241895), .lit (.int .u32 666307205), .lit (.int .u32 773529912), .lit (.int .u32 1294757372), .lit (.int .u32 1396182291), .lit (.int .u32 1695183700), .lit (.int .u32 1986661051), .lit (.int .u32 2177026350), .lit (.int .u32 2456956037), .lit (.int .u32 2730485921), .lit (.int .u32 2820302411), .lit (.int .u32 3259730800), .lit (.int .u32 3345764771), .lit (.int .u32 3516065817), .lit (.int .u32 3600352804), .lit (.int .u32 4094571909), .lit (.int .u32 275423344), .lit (.int .u32 430227734), .lit (.int .u32 506948616), .lit (.int .u32 659060556), .lit (.int .u32 883997877), .lit (.int .u32 958139571), .lit (.int .u32 1322822218), .lit (.int .u32 1537002063), .lit (.int .u32 1747873779), .lit (.int .u32 1955562222), .lit (.int .u32 2024104815), .lit (.int .u32 2227730452), .lit (.int .u32 2361852424), .lit (.int .u32 2428436474), .lit (.int .u32 2756734187), .lit (.int .u32 3204031479), .lit (.int .u32 3329325298)]
def laid_stillroom_digest_squares {H : Type} : DataW H := .agg [.lit (.int .u32 1779033703), .lit (.int .u32 3144134277), .lit (.int .u32 1013904242), .lit (.int .u32 2773480762), .lit (.int .u32 1359893119), .lit (.int .u32 2600822924), .lit (.int .u32 528734635), .lit (.int .u32 1541459225)]

/-- 'stillroomlaw01.BitsSigns': WHATEVER THE INPUT: true; the input reads as it did. -/
def bitsSignsSpec : ChangeSpec := { name := "bitsSigns", fn := fun _ => fun
  | [d1, d2] => { results := [.lit (.bool true)], args := [d1, d2] }
  | _ => none }
def bitsSignsRow : OpenClaim := { program := "ytmaknbcfnigbmaadoor", sum := "506d7f1c95e6f1a0cb0b293525dfc9c381271f383e3c937b4da46df39cc3c38c", func := "stillroom/stillroomlaw01.BitsSigns", spec := "bitsSigns", inPlace := ["internal/abi.NoEscape", "internal/bytealg.IndexByteString"], named := ["stillroom/bits.tails"], plainKeys := false, apart := false, laid := [("stillroom/bits.tails", laid_stillroom_bits_tails)] }
def BitsSignsSaid : Prop := bitsSignsRow.holds Tryd.pinned (OpenSpec.ofChange bitsSignsSpec)

/-- ITS FALSE NEIGHBOUR: 'it returns false'. Refute it at one input. -/
def bitsSignsWrong : ChangeSpec := { name := "bitsSigns", fn := fun _ => fun
  | [d1, d2] => { results := [.lit (.bool false)], args := [d1, d2] }
  | _ => none }
def BitsSignsWrongFalsely : Prop := bitsSignsRow.holds Tryd.pinned (OpenSpec.ofChange bitsSignsWrong)

/-- 'stillroomlaw01.BitsBack': WHATEVER THE INPUT: true; the input reads as it did. -/
def bitsBackSpec : ChangeSpec := { name := "bitsBack", fn := fun _ => fun
  | [d1, d2] => { results := [.lit (.bool true)], args := [d1, d2] }
  | _ => none }
def bitsBackRow : OpenClaim := { program := "ytmaknbcfnigbmaadoor", sum := "506d7f1c95e6f1a0cb0b293525dfc9c381271f383e3c937b4da46df39cc3c38c", func := "stillroom/stillroomlaw01.BitsBack", spec := "bitsBack", inPlace := ["internal/abi.NoEscape", "internal/bytealg.IndexByteString"], named := ["stillroom/bits.tails"], plainKeys := false, apart := false, laid := [("stillroom/bits.tails", laid_stillroom_bits_tails)] }
def BitsBackSaid : Prop := bitsBackRow.holds Tryd.pinned (OpenSpec.ofChange bitsBackSpec)

/-- ITS FALSE NEIGHBOUR: 'it returns false'. Refute it at one input. -/
def bitsBackWrong : ChangeSpec := { name := "bitsBack", fn := fun _ => fun
  | [d1, d2] => { results := [.lit (.bool false)], args := [d1, d2] }
  | _ => none }
def BitsBackWrongFalsely : Prop := bitsBackRow.holds Tryd.pinned (OpenSpec.ofChange bitsBackWrong)

/-- 'stillroomlaw09.PathSplits': WHATEVER THE INPUT: true; the input reads as it did. -/
def pathSplitsSpec : ChangeSpec := { name := "pathSplits", fn := fun _ => fun
  | [d] => { results := [.lit (.bool true)], args := [d] }
  | _ => none }
def pathSplitsRow : OpenClaim := { program := "ytmaknbcfnigbmaadoor", sum := "506d7f1c95e6f1a0cb0b293525dfc9c381271f383e3c937b4da46df39cc3c38c", func := "stillroom/stillroomlaw09.PathSplits", spec := "pathSplits", inPlace := ["internal/bytealg.IndexByteString"], named := ["stillroom/path.ranges", "stillroom/bits.tails"], plainKeys := false, apart := false, laid := [("stillroom/bits.tails", laid_stillroom_bits_tails), ("stillroom/path.ranges", laid_stillroom_path_ranges)] }
def PathSplitsSaid : Prop := pathSplitsRow.holds Tryd.pinned (OpenSpec.ofChange pathSplitsSpec)

/-- ITS FALSE NEIGHBOUR: 'it returns false'. Refute it at one input. -/
def pathSplitsWrong : ChangeSpec := { name := "pathSplits", fn := fun _ => fun
  | [d] => { results := [.lit (.bool false)], args := [d] }
  | _ => none }
def PathSplitsWrongFalsely : Prop := pathSplitsRow.holds Tryd.pinned (OpenSpec.ofChange pathSplitsWrong)

/-- 'stillroomlaw02.DigestCounts': WHATEVER THE INPUT: true; the input reads as it did. -/
def digestCountsSpec : ChangeSpec := { name := "digestCounts", fn := fun _ => fun
  | [d1, d2] => { results := [.lit (.bool true)], args := [d1, d2] }
  | _ => none }
def digestCountsRow : OpenClaim := { program := "ytmaknbcfnigbmaadoor", sum := "506d7f1c95e6f1a0cb0b293525dfc9c381271f383e3c937b4da46df39cc3c38c", func := "stillroom/stillroomlaw02.DigestCounts", spec := "digestCounts", named := ["stillroom/digest.squares", "stillroom/digest.cubes"], plainKeys := false, apart := false, laid := [("stillroom/digest.cubes", laid_stillroom_digest_cubes), ("stillroom/digest.squares", laid_stillroom_digest_squares)] }
def DigestCountsSaid : Prop := digestCountsRow.holds Tryd.pinned (OpenSpec.ofChange digestCountsSpec)

/-- ITS FALSE NEIGHBOUR: 'it returns false'. Refute it at one input. -/
def digestCountsWrong : ChangeSpec := { name := "digestCounts", fn := fun _ => fun
  | [d1, d2] => { results := [.lit (.bool false)], args := [d1, d2] }
  | _ => none }
def DigestCountsWrongFalsely : Prop := digestCountsRow.holds Tryd.pinned (OpenSpec.ofChange digestCountsWrong)

/-- 'stillroomlaw02.DigestParses': WHATEVER THE INPUT: true; the input reads as it did. -/
def digestParsesSpec : ChangeSpec := { name := "digestParses", fn := fun _ => fun
  | [d1, d2] => { results := [.lit (.bool true)], args := [d1, d2] }
  | _ => none }
def digestParsesRow : OpenClaim := { program := "ytmaknbcfnigbmaadoor", sum := "506d7f1c95e6f1a0cb0b293525dfc9c381271f383e3c937b4da46df39cc3c38c", func := "stillroom/stillroomlaw02.DigestParses", spec := "digestParses", inPlace := ["internal/bytealg.IndexByteString", "internal/abi.NoEscape"], named := ["stillroom/bits.tails"], plainKeys := false, apart := false, laid := [("stillroom/bits.tails", laid_stillroom_bits_tails)] }
def DigestParsesSaid : Prop := digestParsesRow.holds Tryd.pinned (OpenSpec.ofChange digestParsesSpec)

/-- ITS FALSE NEIGHBOUR: 'it returns false'. Refute it at one input. -/
def digestParsesWrong : ChangeSpec := { name := "digestParses", fn := fun _ => fun
  | [d1, d2] => { results := [.lit (.bool false)], args := [d1, d2] }
  | _ => none }
def DigestParsesWrongFalsely : Prop := digestParsesRow.holds Tryd.pinned (OpenSpec.ofChange digestParsesWrong)

/-- 'stillroomlaw02.DigestBack': WHATEVER THE INPUT: true; the input reads as it did. -/
def digestBackSpec : ChangeSpec := { name := "digestBack", fn := fun _ => fun
  | [d1, d2] => { results := [.lit (.bool true)], args := [d1, d2] }
  | _ => none }
def digestBackRow : OpenClaim := { program := "ytmaknbcfnigbmaadoor", sum := "506d7f1c95e6f1a0cb0b293525dfc9c381271f383e3c937b4da46df39cc3c38c", func := "stillroom/stillroomlaw02.DigestBack", spec := "digestBack", inPlace := ["internal/abi.NoEscape", "internal/bytealg.IndexByteString"], named := ["stillroom/bits.tails"], plainKeys := false, apart := false, laid := [("stillroom/bits.tails", laid_stillroom_bits_tails)] }
def DigestBackSaid : Prop := digestBackRow.holds Tryd.pinned (OpenSpec.ofChange digestBackSpec)

/-- ITS FALSE NEIGHBOUR: 'it returns false'. Refute it at one input. -/
def digestBackWrong : ChangeSpec := { name := "digestBack", fn := fun _ => fun
  | [d1, d2] => { results := [.lit (.bool false)], args := [d1, d2] }
  | _ => none }
def DigestBackWrongFalsely : Prop := digestBackRow.holds Tryd.pinned (OpenSpec.ofChange digestBackWrong)

/-- 'stillroomlaw02.DigestSums': WHATEVER THE INPUT: true; the input reads as it did. -/
def digestSumsSpec : ChangeSpec := { name := "digestSums", fn := fun _ => fun
  | [d] => { results := [.lit (.bool true)], args := [d] }
  | _ => none }
def digestSumsRow : OpenClaim := { program := "ytmaknbcfnigbmaadoor", sum := "506d7f1c95e6f1a0cb0b293525dfc9c381271f383e3c937b4da46df39cc3c38c", func := "stillroom/stillroomlaw02.DigestSums", spec := "digestSums", inPlace := ["internal/abi.NoEscape"], named := ["stillroom/digest.squares", "stillroom/digest.cubes"], plainKeys := false, apart := false, laid := [("stillroom/digest.cubes", laid_stillroom_digest_cubes), ("stillroom/digest.squares", laid_stillroom_digest_squares)] }
def DigestSumsSaid : Prop := digestSumsRow.holds Tryd.pinned (OpenSpec.ofChange digestSumsSpec)

/-- ITS FALSE NEIGHBOUR: 'it returns false'. Refute it at one input. -/
def digestSumsWrong : ChangeSpec := { name := "digestSums", fn := fun _ => fun
  | [d] => { results := [.lit (.bool false)], args := [d] }
  | _ => none }
def DigestSumsWrongFalsely : Prop := digestSumsRow.holds Tryd.pinned (OpenSpec.ofChange digestSumsWrong)

/-- 'stillroomlaw09.PathMakes': WHATEVER THE INPUT: true; the input reads as it did. -/
def pathMakesSpec : ChangeSpec := { name := "pathMakes", fn := fun _ => fun
  | [d1, d2, d3] => { results := [.lit (.bool true)], args := [d1, d2, d3] }
  | _ => none }
def pathMakesRow : OpenClaim := { program := "ytmaknbcfnigbmaadoor", sum := "506d7f1c95e6f1a0cb0b293525dfc9c381271f383e3c937b4da46df39cc3c38c", func := "stillroom/stillroomlaw09.PathMakes", spec := "pathMakes", inPlace := ["internal/bytealg.IndexByteString", "internal/bytealg.IndexString", "internal/abi.NoEscape", "internal/bytealg.MakeNoZero"], named := ["stillroom/path.ranges", "internal/bytealg.MaxLen", "stillroom/digest.squares", "stillroom/digest.cubes"], plainKeys := false, apart := false, laid := [("stillroom/digest.cubes", laid_stillroom_digest_cubes), ("stillroom/digest.squares", laid_stillroom_digest_squares), ("stillroom/path.ranges", laid_stillroom_path_ranges)] }
def PathMakesSaid : Prop := pathMakesRow.holds Tryd.pinned (OpenSpec.ofChange pathMakesSpec)

/-- ITS FALSE NEIGHBOUR: 'it returns false'. Refute it at one input. -/
def pathMakesWrong : ChangeSpec := { name := "pathMakes", fn := fun _ => fun
  | [d1, d2, d3] => { results := [.lit (.bool false)], args := [d1, d2, d3] }
  | _ => none }
def PathMakesWrongFalsely : Prop := pathMakesRow.holds Tryd.pinned (OpenSpec.ofChange pathMakesWrong)

/-- 'stillroomlaw09.PathApart': WHATEVER THE INPUT: true; the input reads as it did. -/
def pathApartSpec : ChangeSpec := { name := "pathApart", fn := fun _ => fun
  | [d1, d2, d3] => { results := [.lit (.bool true)], args := [d1, d2, d3] }
  | _ => none }
def pathApartRow : OpenClaim := { program := "ytmaknbcfnigbmaadoor", sum := "506d7f1c95e6f1a0cb0b293525dfc9c381271f383e3c937b4da46df39cc3c38c", func := "stillroom/stillroomlaw09.PathApart", spec := "pathApart", inPlace := ["internal/bytealg.IndexByteString", "internal/bytealg.IndexString", "internal/abi.NoEscape", "internal/bytealg.MakeNoZero"], named := ["stillroom/path.ranges", "internal/bytealg.MaxLen", "stillroom/digest.squares", "stillroom/digest.cubes", "stillroom/bits.tails"], plainKeys := false, apart := false, laid := [("stillroom/bits.tails", laid_stillroom_bits_tails), ("stillroom/digest.cubes", laid_stillroom_digest_cubes), ("stillroom/digest.squares", laid_stillroom_digest_squares), ("stillroom/path.ranges", laid_stillroom_path_ranges)] }
def PathApartSaid : Prop := pathApartRow.holds Tryd.pinned (OpenSpec.ofChange pathApartSpec)

/-- ITS FALSE NEIGHBOUR: 'it returns false'. Refute it at one input. -/
def pathApartWrong : ChangeSpec := { name := "pathApart", fn := fun _ => fun
  | [d1, d2, d3] => { results := [.lit (.bool false)], args := [d1, d2, d3] }
  | _ => none }
def PathApartWrongFalsely : Prop := pathApartRow.holds Tryd.pinned (OpenSpec.ofChange pathApartWrong)

/-- 'stillroomlaw09.PathBack': WHATEVER THE INPUT: true; the input reads as it did. -/
def pathBackSpec : ChangeSpec := { name := "pathBack", fn := fun _ => fun
  | [d1, d2, d3] => { results := [.lit (.bool true)], args := [d1, d2, d3] }
  | _ => none }
def pathBackRow : OpenClaim := { program := "ytmaknbcfnigbmaadoor", sum := "506d7f1c95e6f1a0cb0b293525dfc9c381271f383e3c937b4da46df39cc3c38c", func := "stillroom/stillroomlaw09.PathBack", spec := "pathBack", inPlace := ["internal/bytealg.IndexByteString", "internal/bytealg.IndexString", "internal/abi.NoEscape", "internal/bytealg.MakeNoZero"], named := ["stillroom/path.ranges", "internal/bytealg.MaxLen", "stillroom/digest.squares", "stillroom/digest.cubes", "stillroom/bits.tails"], plainKeys := false, apart := false, laid := [("stillroom/bits.tails", laid_stillroom_bits_tails), ("stillroom/digest.cubes", laid_stillroom_digest_cubes), ("stillroom/digest.squares", laid_stillroom_digest_squares), ("stillroom/path.ranges", laid_stillroom_path_ranges)] }
def PathBackSaid : Prop := pathBackRow.holds Tryd.pinned (OpenSpec.ofChange pathBackSpec)

/-- ITS FALSE NEIGHBOUR: 'it returns false'. Refute it at one input. -/
def pathBackWrong : ChangeSpec := { name := "pathBack", fn := fun _ => fun
  | [d1, d2, d3] => { results := [.lit (.bool false)], args := [d1, d2, d3] }
  | _ => none }
def PathBackWrongFalsely : Prop := pathBackRow.holds Tryd.pinned (OpenSpec.ofChange pathBackWrong)

/- THE SECOND FORM. 'bulk': how many values and letters a reading holds, each counted each time it is reached (what is shared counts as often as it is met; a slice's spare places count too). A statement '..UptoSaid' is the law's where the arguments, and the package variables that the reading takes, are together of bulk at most 1048576: NARROWER than '..Said'. Prove '..Said' where nothing that the law and all that it calls make is longer than what came in: it says more and counts as full. Else prove '..UptoSaid'. A law counts once. -/
mutual
def uptoBulk {H : Type} : DataW H → Nat
  | .lit (.string bytes) => bytes.length + 1
  | .lit _ => 1
  | .nil => 1
  | .ptr d => uptoBulk d + 1
  | .slice elems spare => uptoBulkAll elems + uptoBulkAll spare + 1
  | .agg parts => uptoBulkAll parts + 1
  | .iface _ d => uptoBulk d + 1
  | .map entries => uptoBulkEntries entries + 1
  | .held _ => 1
def uptoBulkAll {H : Type} : List (DataW H) → Nat
  | [] => 0
  | d :: r => uptoBulk d + uptoBulkAll r
def uptoBulkEntries {H : Type} : List (Lit × DataW H) → Nat
  | [] => 0
  | x :: r => uptoBulkEntry x + uptoBulkEntries r
def uptoBulkEntry {H : Type} : Lit × DataW H → Nat
  | (.string bytes, d) => bytes.length + uptoBulk d + 1
  | (_, d) => uptoBulk d + 1
 end
def uptoSmall : (H : Type) → List (DataW H) → Bool := fun _ ds => decide (uptoBulkAll ds ≤ 1048576)
def OpenSpec.upto (s : _root_.Go.ChangeSpec) : _root_.Go.OpenSpec := { _root_.Go.OpenSpec.ofChange s with cond := some uptoSmall }

/-- 'stillroomlaw01.BitsSigns', WHERE WHAT IT READS IS OF BULK AT MOST 1048576: true; the input reads as it did. -/
def bitsSignsUptoRow : OpenClaim := { program := "ytmaknbcfnigbmaadoor", sum := "506d7f1c95e6f1a0cb0b293525dfc9c381271f383e3c937b4da46df39cc3c38c", func := "stillroom/stillroomlaw01.BitsSigns", spec := "bitsSigns", inPlace := ["internal/abi.NoEscape", "internal/bytealg.IndexByteString"], named := ["stillroom/bits.tails"], plainKeys := false, apart := false, laid := [("stillroom/bits.tails", laid_stillroom_bits_tails)], narrowed := true }
def BitsSignsUptoSaid : Prop := bitsSignsUptoRow.holds Tryd.pinned (OpenSpec.upto bitsSignsSpec)

/-- 'stillroomlaw01.BitsBack', WHERE WHAT IT READS IS OF BULK AT MOST 1048576: true; the input reads as it did. -/
def bitsBackUptoRow : OpenClaim := { program := "ytmaknbcfnigbmaadoor", sum := "506d7f1c95e6f1a0cb0b293525dfc9c381271f383e3c937b4da46df39cc3c38c", func := "stillroom/stillroomlaw01.BitsBack", spec := "bitsBack", inPlace := ["internal/abi.NoEscape", "internal/bytealg.IndexByteString"], named := ["stillroom/bits.tails"], plainKeys := false, apart := false, laid := [("stillroom/bits.tails", laid_stillroom_bits_tails)], narrowed := true }
def BitsBackUptoSaid : Prop := bitsBackUptoRow.holds Tryd.pinned (OpenSpec.upto bitsBackSpec)

/-- 'stillroomlaw09.PathSplits', WHERE WHAT IT READS IS OF BULK AT MOST 1048576: true; the input reads as it did. -/
def pathSplitsUptoRow : OpenClaim := { program := "ytmaknbcfnigbmaadoor", sum := "506d7f1c95e6f1a0cb0b293525dfc9c381271f383e3c937b4da46df39cc3c38c", func := "stillroom/stillroomlaw09.PathSplits", spec := "pathSplits", inPlace := ["internal/bytealg.IndexByteString"], named := ["stillroom/path.ranges", "stillroom/bits.tails"], plainKeys := false, apart := false, laid := [("stillroom/bits.tails", laid_stillroom_bits_tails), ("stillroom/path.ranges", laid_stillroom_path_ranges)], narrowed := true }
def PathSplitsUptoSaid : Prop := pathSplitsUptoRow.holds Tryd.pinned (OpenSpec.upto pathSplitsSpec)

/-- 'stillroomlaw02.DigestCounts', WHERE WHAT IT READS IS OF BULK AT MOST 1048576: true; the input reads as it did. -/
def digestCountsUptoRow : OpenClaim := { program := "ytmaknbcfnigbmaadoor", sum := "506d7f1c95e6f1a0cb0b293525dfc9c381271f383e3c937b4da46df39cc3c38c", func := "stillroom/stillroomlaw02.DigestCounts", spec := "digestCounts", named := ["stillroom/digest.squares", "stillroom/digest.cubes"], plainKeys := false, apart := false, laid := [("stillroom/digest.cubes", laid_stillroom_digest_cubes), ("stillroom/digest.squares", laid_stillroom_digest_squares)], narrowed := true }
def DigestCountsUptoSaid : Prop := digestCountsUptoRow.holds Tryd.pinned (OpenSpec.upto digestCountsSpec)

/-- 'stillroomlaw02.DigestParses', WHERE WHAT IT READS IS OF BULK AT MOST 1048576: true; the input reads as it did. -/
def digestParsesUptoRow : OpenClaim := { program := "ytmaknbcfnigbmaadoor", sum := "506d7f1c95e6f1a0cb0b293525dfc9c381271f383e3c937b4da46df39cc3c38c", func := "stillroom/stillroomlaw02.DigestParses", spec := "digestParses", inPlace := ["internal/bytealg.IndexByteString", "internal/abi.NoEscape"], named := ["stillroom/bits.tails"], plainKeys := false, apart := false, laid := [("stillroom/bits.tails", laid_stillroom_bits_tails)], narrowed := true }
def DigestParsesUptoSaid : Prop := digestParsesUptoRow.holds Tryd.pinned (OpenSpec.upto digestParsesSpec)

/-- 'stillroomlaw02.DigestBack', WHERE WHAT IT READS IS OF BULK AT MOST 1048576: true; the input reads as it did. -/
def digestBackUptoRow : OpenClaim := { program := "ytmaknbcfnigbmaadoor", sum := "506d7f1c95e6f1a0cb0b293525dfc9c381271f383e3c937b4da46df39cc3c38c", func := "stillroom/stillroomlaw02.DigestBack", spec := "digestBack", inPlace := ["internal/abi.NoEscape", "internal/bytealg.IndexByteString"], named := ["stillroom/bits.tails"], plainKeys := false, apart := false, laid := [("stillroom/bits.tails", laid_stillroom_bits_tails)], narrowed := true }
def DigestBackUptoSaid : Prop := digestBackUptoRow.holds Tryd.pinned (OpenSpec.upto digestBackSpec)

/-- 'stillroomlaw02.DigestSums', WHERE WHAT IT READS IS OF BULK AT MOST 1048576: true; the input reads as it did. -/
def digestSumsUptoRow : OpenClaim := { program := "ytmaknbcfnigbmaadoor", sum := "506d7f1c95e6f1a0cb0b293525dfc9c381271f383e3c937b4da46df39cc3c38c", func := "stillroom/stillroomlaw02.DigestSums", spec := "digestSums", inPlace := ["internal/abi.NoEscape"], named := ["stillroom/digest.squares", "stillroom/digest.cubes"], plainKeys := false, apart := false, laid := [("stillroom/digest.cubes", laid_stillroom_digest_cubes), ("stillroom/digest.squares", laid_stillroom_digest_squares)], narrowed := true }
def DigestSumsUptoSaid : Prop := digestSumsUptoRow.holds Tryd.pinned (OpenSpec.upto digestSumsSpec)

/-- 'stillroomlaw09.PathMakes', WHERE WHAT IT READS IS OF BULK AT MOST 1048576: true; the input reads as it did. -/
def pathMakesUptoRow : OpenClaim := { program := "ytmaknbcfnigbmaadoor", sum := "506d7f1c95e6f1a0cb0b293525dfc9c381271f383e3c937b4da46df39cc3c38c", func := "stillroom/stillroomlaw09.PathMakes", spec := "pathMakes", inPlace := ["internal/bytealg.IndexByteString", "internal/bytealg.IndexString", "internal/abi.NoEscape", "internal/bytealg.MakeNoZero"], named := ["stillroom/path.ranges", "internal/bytealg.MaxLen", "stillroom/digest.squares", "stillroom/digest.cubes"], plainKeys := false, apart := false, laid := [("stillroom/digest.cubes", laid_stillroom_digest_cubes), ("stillroom/digest.squares", laid_stillroom_digest_squares), ("stillroom/path.ranges", laid_stillroom_path_ranges)], narrowed := true }
def PathMakesUptoSaid : Prop := pathMakesUptoRow.holds Tryd.pinned (OpenSpec.upto pathMakesSpec)

/-- 'stillroomlaw09.PathApart', WHERE WHAT IT READS IS OF BULK AT MOST 1048576: true; the input reads as it did. -/
def pathApartUptoRow : OpenClaim := { program := "ytmaknbcfnigbmaadoor", sum := "506d7f1c95e6f1a0cb0b293525dfc9c381271f383e3c937b4da46df39cc3c38c", func := "stillroom/stillroomlaw09.PathApart", spec := "pathApart", inPlace := ["internal/bytealg.IndexByteString", "internal/bytealg.IndexString", "internal/abi.NoEscape", "internal/bytealg.MakeNoZero"], named := ["stillroom/path.ranges", "internal/bytealg.MaxLen", "stillroom/digest.squares", "stillroom/digest.cubes", "stillroom/bits.tails"], plainKeys := false, apart := false, laid := [("stillroom/bits.tails", laid_stillroom_bits_tails), ("stillroom/digest.cubes", laid_stillroom_digest_cubes), ("stillroom/digest.squares", laid_stillroom_digest_squares), ("stillroom/path.ranges", laid_stillroom_path_ranges)], narrowed := true }
def PathApartUptoSaid : Prop := pathApartUptoRow.holds Tryd.pinned (OpenSpec.upto pathApartSpec)

/-- 'stillroomlaw09.PathBack', WHERE WHAT IT READS IS OF BULK AT MOST 1048576: true; the input reads as it did. -/
def pathBackUptoRow : OpenClaim := { program := "ytmaknbcfnigbmaadoor", sum := "506d7f1c95e6f1a0cb0b293525dfc9c381271f383e3c937b4da46df39cc3c38c", func := "stillroom/stillroomlaw09.PathBack", spec := "pathBack", inPlace := ["internal/bytealg.IndexByteString", "internal/bytealg.IndexString", "internal/abi.NoEscape", "internal/bytealg.MakeNoZero"], named := ["stillroom/path.ranges", "internal/bytealg.MaxLen", "stillroom/digest.squares", "stillroom/digest.cubes", "stillroom/bits.tails"], plainKeys := false, apart := false, laid := [("stillroom/bits.tails", laid_stillroom_bits_tails), ("stillroom/digest.cubes", laid_stillroom_digest_cubes), ("stillroom/digest.squares", laid_stillroom_digest_squares), ("stillroom/path.ranges", laid_stillroom_path_ranges)], narrowed := true }
def PathBackUptoSaid : Prop := pathBackUptoRow.holds Tryd.pinned (OpenSpec.upto pathBackSpec)

end Rows
end Go.Proofs.YtmaknbcfnigbmaaDoor
