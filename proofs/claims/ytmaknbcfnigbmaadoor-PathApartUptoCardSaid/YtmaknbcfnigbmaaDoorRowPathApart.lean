/- PathApart: for every input of bulk at most 1048576 the law answers true, and its arguments read as they did. The row lists variables: they hold what their initialisers lay (the card ties that to the program's text). -/
import Derived.Test.YtmaknbcfnigbmaaDoorCards
import Derived.Test.YtmaknbcfnigbmaaDoorTie
import Derived.Test.YtmaknbcfnigbmaaDoorWalkApart
import Derived.Test.YtmaknbcfnigbmaaDoorRowOpen
import Derived.Test.YtmaknbcfnigbmaaDoorOpenPair
import Derived.Test.YtmaknbcfnigbmaaDoorTab2
import Derived.WalkKit
import Derived.ProofKit
import Derived.OpenShut
import Derived.ShutString
import Derived.ChangeOld
import Derived.Below
import Derived.SizedLaws
import Derived.Deep.DeepHandedRow
import Derived.Lib.LaidTab
import Derived.LaidSub
namespace Go.Proofs.YtmaknbcfnigbmaaDoor.pathApart
open Go.ChangeShapes Go.WideShapes Go.ChangeAt Go.RowKit
open Go.ChangeMaps (open_string shut_string)
set_option linter.unusedVariables false
set_option linter.unusedSimpArgs false
theorem own : ownKnob Tryd.prog.godebug = none := by kernel_rfl
theorem laidOut : laidOutB Tryd.prog = true := by kernel_rfl
theorem gn0 : Tryd.prog.globalNamed "stillroom/bits.tails" = some 0 := by kernel_rfl
theorem gt0 : (Tryd.prog.globals[0]?).map (·.type) = some 73 := by kernel_rfl
theorem tabOf0 {W : World} (h : laidMetH Tryd.prog Rows.pathApartUptoRow.laid W) : Lib.TabIs Tryd.prog W "stillroom/bits.tails" .i64 [0, 2, 4, 5, 7] :=
  Lib.tabIs_of_head (rest := []) gn0 gt0 Tryd.underlying73 Tryd.underlying3 (by kernel_rfl) (by kernel_rfl) (laidMetH.filter (fun x => x.1 == "stillroom/bits.tails") h)

theorem gn1 : Tryd.prog.globalNamed "stillroom/digest.cubes" = some 3 := by kernel_rfl
theorem gt1 : (Tryd.prog.globals[3]?).map (·.type) = some 99 := by kernel_rfl
theorem tabOf1 {W : World} (h : laidMetH Tryd.prog Rows.pathApartUptoRow.laid W) : Lib.TabIs Tryd.prog W "stillroom/digest.cubes" .u32 [1116352408, 1899447441, 3049323471, 3921009573, 961987163, 1508970993, 2453635748, 2870763221, 3624381080, 310598401, 607225278, 1426881987, 1925078388, 2162078206, 2614888103, 3248222580, 3835390401, 4022224774, 264347078, 604807628, 770255983, 1249150122, 1555081692, 1996064986, 2554220882, 2821834349, 2952996808, 3210313671, 3336571891, 3584528711, 113926993, 338241895, 666307205, 773529912, 1294757372, 1396182291, 1695183700, 1986661051, 2177026350, 2456956037, 2730485921, 2820302411, 3259730800, 3345764771, 3516065817, 3600352804, 4094571909, 275423344, 430227734, 506948616, 659060556, 883997877, 958139571, 1322822218, 1537002063, 1747873779, 1955562222, 2024104815, 2227730452, 2361852424, 2428436474, 2756734187, 3204031479, 3329325298] :=
  Lib.tabIs_of_head (rest := []) gn1 gt1 Tryd.underlying99 Tryd.underlying67 (by kernel_rfl) (by kernel_rfl) (laidMetH.filter (fun x => x.1 == "stillroom/digest.cubes") h)

theorem gn2 : Tryd.prog.globalNamed "stillroom/digest.squares" = some 1 := by kernel_rfl
theorem gt2 : (Tryd.prog.globals[1]?).map (·.type) = some 79 := by kernel_rfl
theorem tabOf2 {W : World} (h : laidMetH Tryd.prog Rows.pathApartUptoRow.laid W) : Lib.TabIs Tryd.prog W "stillroom/digest.squares" .u32 [1779033703, 3144134277, 1013904242, 2773480762, 1359893119, 2600822924, 528734635, 1541459225] :=
  Lib.tabIs_of_head (rest := []) gn2 gt2 Tryd.underlying79 Tryd.underlying67 (by kernel_rfl) (by kernel_rfl) (laidMetH.filter (fun x => x.1 == "stillroom/digest.squares") h)

theorem gn3 : Tryd.prog.globalNamed "stillroom/path.ranges" = some 2 := by kernel_rfl
theorem gt3 : (Tryd.prog.globals[2]?).map (·.type) = some 95 := by kernel_rfl
theorem tabOf3 {W : World} (h : laidMetH Tryd.prog Rows.pathApartUptoRow.laid W) : ∀ (i j : Nat) (row : List Int) (z : Int), ([[97, 122], [65, 90], [48, 57], [43, 43], [45, 45], [46, 46], [95, 95]] : List (List Int))[i]? = some row → row[j]? = some z → j < 2 → W.cell? ⟨2, i * 2 + j, none⟩ = some (.int .u8 z) :=
  tab2_of_head (rows := [[97, 122], [65, 90], [48, 57], [43, 43], [45, 45], [46, 46], [95, 95]]) (rest := []) gn3 gt3 Tryd.underlying95 Tryd.underlying94 Tryd.underlying5 (by kernel_rfl) (by kernel_rfl) rfl (laidMetH.filter (fun x => x.1 == "stillroom/path.ranges") h)

set_option maxRecDepth 100000 in
/-- What the walk gives, for every argument and every world that holds the tables. -/
theorem contract (H : Type) (enc : TypeId × Value → H) (W : World) (base : Nat) (args : Array Value) (ds gs : List (DataW H)) (before : List MemPlace)
    (hval : ∀ (j : Nat) t v, Tryd.f11.params[j]? = some t → args[j]? = some v → Value.okWide Tryd.prog W .any base t v)
    (hW : DataW.Whole enc Tryd.prog Tryd.f11.params.toList Rows.pathApartSpec.vars false W args.toList ds gs before)
    (hcond : ∀ k, (Rows.OpenSpec.upto Rows.pathApartSpec).cond = some k → k H (ds ++ gs) = true)
    (hsz : (DataW.weightsEach Tryd.prog (Tryd.f11.params.toList ++ (Rows.OpenSpec.upto Rows.pathApartSpec).bare.plain.varTypes Tryd.prog) (ds ++ gs)).all (· ≤ reachBytes) = true)
    (hL : laidMetH Tryd.prog Rows.pathApartUptoRow.laid W) (hsh : W.ShapedOpen Tryd.prog) :
    Calls Tryd.prog 11 args W fun e W' => ∃ v, e = .returned v ∧ Rows.pathApartSpec.post enc Tryd.prog Tryd.f11 false true false false W args v W' := by
  have tab0 := tabOf0 hL
  have tab1 := tabOf1 hL
  have tab2 := tabOf2 hL
  have tab3 := tabOf3 hL
  have bulk : Rows.uptoBulkAll (ds ++ gs) ≤ 1048576 := of_decide_eq_true (hcond _ rfl)
  have hW' := hW
  obtain ⟨p, q, hA0, hV, rfl, hfz, hnd⟩ := hW
  have hA : DataW.TrodAll enc Tryd.prog W 0 (fun _ => true) true Tryd.f11.params.toList args.toList ds p := hA0
  rw [Tryd.params11] at hA hval hsz
  obtain ⟨v0, vs0, d0, ds0, p0, q0, hargs, rfl, rfl, h0, r0⟩ := trodAll_cons hA
  obtain ⟨v1, vs1, d1, ds1, p1, q1, rfl, rfl, rfl, h1, r1⟩ := trodAll_cons r0
  obtain ⟨v2, vs2, d2, ds2, p2, q2, rfl, rfl, rfl, h2, r2⟩ := trodAll_cons r1
  obtain ⟨rfl, rfl, rfl⟩ := trodAll_nil r2
  obtain rfl : args = #[v0, v1, v2] := by cases args; simp_all
  obtain ⟨rfl, rfl⟩ := trodVars_none hV
  have k0 := h0
  have lt0 : ∀ x ∈ p0, x.block < W.heap.size := by obtain ⟨m, hm⟩ := k0; exact DataW.trod_lt m _ _ _ hm
  have k1 := h1
  have lt1 : ∀ x ∈ p1, x.block < W.heap.size := by obtain ⟨m, hm⟩ := k1; exact DataW.trod_lt m _ _ _ hm
  have k2 := h2
  have lt2 : ∀ x ∈ p2, x.block < W.heap.size := by obtain ⟨m, hm⟩ := k2; exact DataW.trod_lt m _ _ _ hm
  obtain ⟨xk, yk, rfl, rfl⟩ := open_strs2 Tryd.underlying61 Tryd.underlying9 (by kernel_rfl) (by kernel_rfl) (hval 0 61 v0 rfl rfl) h0
  obtain ⟨xd, yd, hl1, hm1, rfl⟩ := open_arrB2 Tryd.underlying62 Tryd.underlying41 Tryd.underlying5 (by kernel_rfl) (by kernel_rfl) (by kernel_rfl) (hval 1 62 v1 rfl rfl) h1
  obtain ⟨xn, yn, rfl, rfl⟩ := open_strs2 Tryd.underlying61 Tryd.underlying9 (by kernel_rfl) (by kernel_rfl) (hval 2 61 v2 rfl rfl) h2
  clear hA0
  simp only [List.append_nil, List.cons_append, List.nil_append, Rows.uptoBulkAll, Rows.uptoBulk] at bulk
  have sz_xk : xk.size ≤ 1048576 := by
    have : xk.data.toList.length = xk.size := Array.length_toList
    omega
  have sz_yk : yk.size ≤ 1048576 := by
    have : yk.data.toList.length = yk.size := Array.length_toList
    omega
  have sz_xn : xn.size ≤ 1048576 := by
    have : xn.data.toList.length = xn.size := Array.length_toList
    omega
  have sz_yn : yn.size ≤ 1048576 := by
    have : yn.data.toList.length = yn.size := Array.length_toList
    omega
  refine (apart_any xk yk xn yn xd yd hl1 hm1 sz_xk sz_yk sz_xn sz_yn W ⟨tails_of tab0, ranges_of tab3, cubes_of tab1, squares_of tab2⟩).mono fun e W' ⟨he, bel⟩ => ?_
  subst he
  exact ⟨_, rfl, _, _, _, [], _, [], hW', trodAll_mk1 (shut_bool Tryd.underlying4 _), (trodAll_cons_mk (Below.trod laidOut (by kernel_rfl) (of_decide_eq_true (by kernel_rfl)) k0 bel lt0) (trodAll_cons_mk (Below.trod laidOut (by kernel_rfl) (of_decide_eq_true (by kernel_rfl)) k1 bel lt1) (trodAll_cons_mk (Below.trod laidOut (by kernel_rfl) (of_decide_eq_true (by kernel_rfl)) k2 bel lt2) trodAll_mk0))), rfl, bel.frame _, fun h => by cases h⟩
def putCells (cs : Array Value) : Obj → Obj
  | .cells _ t frozen => .cells cs t frozen
  | o => o
/-- A world for the witness: the settled one, the tables holding what their initialisers lay. -/
noncomputable def laidWorld (os : Os) : World :=
  { World.holding Tryd.prog os ⟨#[], #[], []⟩ with heap := (((((World.holding Tryd.prog os ⟨#[], #[], []⟩).heap).modify 0 (putCells #[.int .i64 0, .int .i64 2, .int .i64 4, .int .i64 5, .int .i64 7])).modify 3 (putCells #[.int .u32 1116352408, .int .u32 1899447441, .int .u32 3049323471, .int .u32 3921009573, .int .u32 961987163, .int .u32 1508970993, .int .u32 2453635748, .int .u32 2870763221, .int .u32 3624381080, .int .u32 310598401, .int .u32 607225278, .int .u32 1426881987, .int .u32 1925078388, .int .u32 2162078206, .int .u32 2614888103, .int .u32 3248222580, .int .u32 3835390401, .int .u32 4022224774, .int .u32 264347078, .int .u32 604807628, .int .u32 770255983, .int .u32 1249150122, .int .u32 1555081692, .int .u32 1996064986, .int .u32 2554220882, .int .u32 2821834349, .int .u32 2952996808, .int .u32 3210313671, .int .u32 3336571891, .int .u32 3584528711, .int .u32 113926993, .int .u32 338241895, .int .u32 666307205, .int .u32 773529912, .int .u32 1294757372, .int .u32 1396182291, .int .u32 1695183700, .int .u32 1986661051, .int .u32 2177026350, .int .u32 2456956037, .int .u32 2730485921, .int .u32 2820302411, .int .u32 3259730800, .int .u32 3345764771, .int .u32 3516065817, .int .u32 3600352804, .int .u32 4094571909, .int .u32 275423344, .int .u32 430227734, .int .u32 506948616, .int .u32 659060556, .int .u32 883997877, .int .u32 958139571, .int .u32 1322822218, .int .u32 1537002063, .int .u32 1747873779, .int .u32 1955562222, .int .u32 2024104815, .int .u32 2227730452, .int .u32 2361852424, .int .u32 2428436474, .int .u32 2756734187, .int .u32 3204031479, .int .u32 3329325298])).modify 1 (putCells #[.int .u32 1779033703, .int .u32 3144134277, .int .u32 1013904242, .int .u32 2773480762, .int .u32 1359893119, .int .u32 2600822924, .int .u32 528734635, .int .u32 1541459225])).modify 2 (putCells #[.int .u8 97, .int .u8 122, .int .u8 65, .int .u8 90, .int .u8 48, .int .u8 57, .int .u8 43, .int .u8 43, .int .u8 45, .int .u8 45, .int .u8 46, .int .u8 46, .int .u8 95, .int .u8 95]) }
theorem laid_met (os : Os) : laidMet Tryd.prog Rows.pathApartUptoRow.laid ((laidWorld os).forCall (fun _ _ => 0) ⟨#[], #[.agg #[.string ⟨#[]⟩, .string ⟨#[]⟩], .agg (List.replicate 64 (Value.int IntKind.u8 0)).toArray, .agg #[.string ⟨#[]⟩, .string ⟨#[]⟩]], []⟩).memory :=
  laidMet_of_run' 8 (by kernel_rfl) (by kernel_rfl)
set_option maxRecDepth 100000 in
theorem lifted (os : Os) (started : os.Started) (H : Type) (enc : TypeId × Value → H) (F : Stop.Interp) :
    ReturnsInHanded {} Tryd.checked os 11 .any ((Rows.OpenSpec.upto Rows.pathApartSpec).preRow enc Tryd.prog Tryd.f11 Rows.pathApartUptoRow.domain false Rows.pathApartUptoRow.laid) (((Rows.OpenSpec.upto Rows.pathApartSpec).at F).post enc Tryd.prog Tryd.f11 false true false false) := by
  obtain ⟨rd, hx, hc⟩ : ∃ rd : List (DataW H) × List (DataW H) × List MemPlace, DataW.whole enc Tryd.prog ((laidWorld os).forCall (fun _ _ => 0) ⟨#[], #[.agg #[.string ⟨#[]⟩, .string ⟨#[]⟩], .agg (List.replicate 64 (Value.int IntKind.u8 0)).toArray, .agg #[.string ⟨#[]⟩, .string ⟨#[]⟩]], []⟩).memory Tryd.f11.params.toList Rows.pathApartSpec.vars false #[(.agg #[.string ⟨#[]⟩, .string ⟨#[]⟩] : Value), (.agg (List.replicate 64 (Value.int IntKind.u8 0)).toArray : Value), (.agg #[.string ⟨#[]⟩, .string ⟨#[]⟩] : Value)].toList 8 = some rd ∧ rd = ([.agg [.lit (.string []), .lit (.string [])], .agg [.agg [.lit (.int .u8 0), .lit (.int .u8 0), .lit (.int .u8 0), .lit (.int .u8 0), .lit (.int .u8 0), .lit (.int .u8 0), .lit (.int .u8 0), .lit (.int .u8 0), .lit (.int .u8 0), .lit (.int .u8 0), .lit (.int .u8 0), .lit (.int .u8 0), .lit (.int .u8 0), .lit (.int .u8 0), .lit (.int .u8 0), .lit (.int .u8 0), .lit (.int .u8 0), .lit (.int .u8 0), .lit (.int .u8 0), .lit (.int .u8 0), .lit (.int .u8 0), .lit (.int .u8 0), .lit (.int .u8 0), .lit (.int .u8 0), .lit (.int .u8 0), .lit (.int .u8 0), .lit (.int .u8 0), .lit (.int .u8 0), .lit (.int .u8 0), .lit (.int .u8 0), .lit (.int .u8 0), .lit (.int .u8 0)], .agg [.lit (.int .u8 0), .lit (.int .u8 0), .lit (.int .u8 0), .lit (.int .u8 0), .lit (.int .u8 0), .lit (.int .u8 0), .lit (.int .u8 0), .lit (.int .u8 0), .lit (.int .u8 0), .lit (.int .u8 0), .lit (.int .u8 0), .lit (.int .u8 0), .lit (.int .u8 0), .lit (.int .u8 0), .lit (.int .u8 0), .lit (.int .u8 0), .lit (.int .u8 0), .lit (.int .u8 0), .lit (.int .u8 0), .lit (.int .u8 0), .lit (.int .u8 0), .lit (.int .u8 0), .lit (.int .u8 0), .lit (.int .u8 0), .lit (.int .u8 0), .lit (.int .u8 0), .lit (.int .u8 0), .lit (.int .u8 0), .lit (.int .u8 0), .lit (.int .u8 0), .lit (.int .u8 0), .lit (.int .u8 0)]], .agg [.lit (.string []), .lit (.string [])]], [], []) := ⟨_, by kernel_rfl, rfl⟩
  subst hc
  refine returnsInHanded_of_row (C := Tryd.checked) (s := Rows.OpenSpec.upto Rows.pathApartSpec) own started (by kernel_rfl) Tryd.func11
    (witness_row_at (enc := enc) (C := Tryd.checked) false (laidWorld os) #[.agg #[.string ⟨#[]⟩, .string ⟨#[]⟩], .agg (List.replicate 64 (Value.int IntKind.u8 0)).toArray, .agg #[.string ⟨#[]⟩, .string ⟨#[]⟩]] rfl (by kernel_rfl) (by kernel_rfl) (by kernel_rfl)
      (OpenSpec.preRow_of_cond 8 hx (by kernel_rfl) (fun k hk => by cases hk; kernel_rfl) (by kernel_rfl) (laid_met os))) ?_
  intro W base args ds gs before hval hW _ hcond hsz hL hsh _
  exact contract H enc W base args ds gs before hval hW hcond hsz hL hsh
theorem said : Rows.PathApartUptoSaid :=
  OpenClaim.holds_of_cond 11 Tryd.f11 rfl rfl rfl rfl rfl rfl rfl ⟨rfl, rfl, rfl, rfl, rfl⟩ rfl rfl rfl rfl rfl (by kernel_rfl) Tryd.func11 (by kernel_rfl)
    (of_decide_eq_true (by kernel_rfl)) (by unfold Func.isWrapper; first | (rw [if_pos (by decide +kernel)]; kernel_rfl) | (rw [if_neg (by decide +kernel)]; exact ⟨rfl, rfl⟩))
    (fun os started H enc _ F => by rw [OpenClaim.pre_eq_preRow]; exact lifted os started H enc F)
theorem plain (f : FuncId) (fn : Func) (hf : Tryd.pinned.checked.prog.funcNamed "stillroom/stillroomlaw09.PathApart" = some f) (hfn : Tryd.pinned.checked.prog.funcs[f]? = some fn) :
    false = Tryd.pinned.checked.prog.looks [] ∧ ∀ (j : Nat) t, fn.params[j]? = some t → Tryd.pinned.checked.prog.wantsStandIn t = false := by
  obtain rfl : f = 11 := Option.some.inj ((show Tryd.prog.funcNamed "stillroom/stillroomlaw09.PathApart" = some 11 by kernel_rfl).symm.trans hf) |>.symm
  obtain rfl : fn = Tryd.f11 := (Option.some.inj (Tryd.func11.symm.trans hfn)).symm
  refine ⟨by kernel_rfl, fun j t ht => ?_⟩
  rw [Tryd.params11] at ht
  have hm := Array.mem_of_getElem? ht
  simp only [List.mem_toArray, List.mem_cons, List.not_mem_nil, or_false] at hm
  rcases hm with rfl | rfl | rfl
  · exact (show Tryd.prog.wantsStandIn 61 = false by kernel_rfl)
  · exact (show Tryd.prog.wantsStandIn 62 = false by kernel_rfl)
  · exact (show Tryd.prog.wantsStandIn 61 = false by kernel_rfl)
/-- The card. -/
theorem card : Rows.PathApartUptoCardSaid :=
  Claim7.holds_tied_plain_at .later [] _ _ _ _ said (fun _ h => by cases h) (by kernel_rfl) (fun _ h => by cases h) pathApartUpto_row_tie rfl ⟨rfl, rfl⟩ (by kernel_rfl) rfl plain (by kernel_rfl)
end Go.Proofs.YtmaknbcfnigbmaaDoor.pathApart
namespace Go.Proofs.YtmaknbcfnigbmaaDoor
theorem pathApartUpto_holds : Rows.PathApartUptoCardSaid := pathApart.card
#print axioms pathApartUpto_holds
end Go.Proofs.YtmaknbcfnigbmaaDoor
