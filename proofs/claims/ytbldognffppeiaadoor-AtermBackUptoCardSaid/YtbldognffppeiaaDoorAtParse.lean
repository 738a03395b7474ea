/- aterm.Parse, walked. -/
import Derived.Test.YtbldognffppeiaaDoorAtDeriv
import Derived.Test.YtbldognffppeiaaDoorAtAs
import Derived.Laws.ResultCell
namespace Go.Proofs.YtbldognffppeiaaDoor
open Go.RowKit Quo
set_option linter.unusedSimpArgs false
set_option linter.unusedVariables false
theorem results_row_tmp {P : Program} {fn : Func} {p u : Tmp} {ty : TypeId} (h : fn.results = #[.cell p ty, .tmp u]) (tmps : Array Value) (w : World) (g : Nat) (t : TypeId) (cs : Array Value) (fr : Nat × Nat) (d : TypeDesc)
    (hp : tmps.getD p undef = .pointer (some ⟨g, 0, none⟩)) (hg : w.heap[g]? = some (.cells cs t fr))
    (hu : P.underlying ty = some d) (hd : (match d with | .struct _ | .array _ _ => true | _ => false) = true) (hi : (P.info? ty).map (·.size) = some cs.size) :
    (results fn tmps).run P w = .ok (.tuple #[.agg cs, tmps.getD u undef]) w := by
  rw [results_cell_tmp h, hp]
  simp [asAddr, run_loadVar_row w g t ty cs fr d hg hu hd hi]
theorem ins_unwipe {b : Nat} {w : World} {A : Option Addr} {l : List (ByteArray × List ByteArray)} (h : InsAt (wipe b w) A l) : InsAt w A l := fun j x hj => by
  obtain ⟨g, o, An, cn, h1, h2, h3, h4, h5, h6, h7⟩ := h j x hj
  exact ⟨g, o, An, cn, h1, wipe_cell h2, wipe_cell h3, h4, h5, h6.unwipe, h7⟩
theorem DrvAt.unwipe {b : Nat} {w : World} {d : Drv} {a : DrvA} (h : DrvAt (wipe b w) d a) : DrvAt w d a :=
  { h with outs := h.outs.unwipe, srcs := h.srcs.unwipe, args := h.args.unwipe, env := h.env.unwipe, ins := ins_unwipe h.ins }
theorem DrvAt.keptW {b : Nat} {w w' : World} {d : Drv} {a : DrvA} (h : DrvAt (wipe b w) d a) (hk : Kept b w w') : DrvAt (wipe b w') d a := h.below hk.wipe'
theorem kept_row (b : Nat) (w : World) (cs : Array Value) : Kept b w (w.setRow b cs) := ⟨rfl, rfl, rfl, by simp [World.setRow], fun i _ hne => setRow_other w b i cs (fun e => hne (by rw [e]))⟩
def emptyD : Drv := ⟨[], [], [], ⟨#[]⟩, ⟨#[]⟩, [], []⟩
def nilA : DrvA := ⟨none, none, none, none, none, 0, 0, 0, 0, 0⟩
theorem empty_at (w : World) : DrvAt w emptyD nilA := ⟨fun j x hj => by simp [emptyD] at hj, fun j x hj => by simp [emptyD] at hj, fun j x hj => by simp [emptyD] at hj, fun j x hj => by simp [emptyD] at hj, fun j x hj => by simp [emptyD] at hj, Nat.le_refl _, Nat.le_refl _, Nat.le_refl _, Nat.le_refl _, Nat.le_refl _, Nat.zero_le _, Nat.zero_le _, Nat.zero_le _, Nat.zero_le _, Nat.zero_le _, fun _ => ⟨rfl, rfl⟩, fun _ => ⟨rfl, rfl⟩, fun _ => ⟨rfl, rfl⟩, fun _ => ⟨rfl, rfl⟩⟩
/-- errors.errorType, as its initialiser lays it. -/
def ErrT (w : World) : Prop := w.cell? ⟨2, 0, none⟩ = some (.iface 132 (.agg #[.pointer (some ⟨4, 55, none⟩)]))
theorem ErrT.below {w w' : World} (h : ErrT w) (hb : Below w.heap.size w w') : ErrT w' := (hb.cell (World.block_lt_of_cell? w _ h)).trans h
theorem ErrT.alloc {w : World} (h : ErrT w) (o : Obj) : ErrT (w.alloc o) := h.below ((Below.refl _ _).alloc (Nat.le_refl _) o)
theorem ErrT.kept {w w' : World} {g : Nat} (h : ErrT w) (hg : 2 < g) (hk : Kept g w w') : ErrT w' := (World.cell?_of_block (hk.block 2 (World.block_lt_of_cell? w _ h) (fun e => by injection e; omega))).trans h
theorem as_below (W : World) (a b c d : Obj) (cs : Array Value) : Below W.heap.size W ((((((W.alloc (.cells #[.int .i64 0] 87)).alloc a).alloc b).alloc c).alloc d).setRow W.heap.size cs) :=
  below_setRow (((((((Below.refl W.heap.size W).alloc (Nat.le_refl _) _).alloc (by simp) _).alloc (by simp; omega) _).alloc (by simp; omega) _).alloc (by simp; omega) _)) (Nat.le_refl _) _
/-- What Parse answers. -/
noncomputable def parseD (l : List UInt8) : Option Drv := (rdD l).bind fun p => if p.2 = [] then some p.1 else none
noncomputable def parseE (s : ByteArray) : Int := if 1048576 < s.size then 3 else match parseD s.data.toList with | none => 10 | some d => rightE d
noncomputable def parseV (s : ByteArray) : Drv := if parseE s = 0 then (parseD s.data.toList).getD emptyD else emptyD
def Parsed (s : ByteArray) (d : Drv) (er : Int) : Prop := d = parseV s ∧ er = parseE s
theorem parsed_big {s : ByteArray} (h : 1048576 < s.size) : Parsed s emptyD 3 := by
  have e : parseE s = 3 := if_pos h
  exact ⟨by unfold parseV; rw [e]; rfl, e.symm⟩
theorem parsed_none {s : ByteArray} (h : ¬ 1048576 < s.size) (hn : parseD s.data.toList = none) : Parsed s emptyD 10 := by
  have e : parseE s = 10 := by unfold parseE; rw [if_neg h, hn]
  exact ⟨by unfold parseV; rw [e]; rfl, e.symm⟩
theorem parsed_bad {s : ByteArray} (h : ¬ 1048576 < s.size) {d : Drv} (hn : parseD s.data.toList = some d) (hr : rightE d ≠ 0) : Parsed s emptyD (rightE d) := by
  have e : parseE s = rightE d := by unfold parseE; rw [if_neg h, hn]
  exact ⟨by unfold parseV; rw [e, if_neg hr], e.symm⟩
theorem parsed_good {s : ByteArray} (h : ¬ 1048576 < s.size) {d : Drv} (hn : parseD s.data.toList = some d) (hr : rightE d = 0) : Parsed s d 0 := by
  have e : parseE s = 0 := by unfold parseE; rw [if_neg h, hn]; exact hr
  exact ⟨by unfold parseV; rw [e, if_pos rfl, hn]; rfl, e.symm⟩
theorem parse_ret {s : ByteArray} {w w' : World} {cs : Array Value} {er : Int} {d : Drv} {a : DrvA} (hc : cs = drvCells d a) (hp : Parsed s d er) (hd : DrvAt w' d a) (hb : Below w.heap.size w w') : ∃ a, Ending.returned (.tuple #[.agg cs, .int .i64 er]) = .returned (.tuple #[.agg (drvCells (parseV s) a), .int .i64 (parseE s)]) ∧ DrvAt w' (parseV s) a ∧ Below w.heap.size w w' := by
  obtain ⟨rfl, rfl⟩ := hp
  exact ⟨a, by rw [hc], hd, hb⟩
set_option maxHeartbeats 8000000 in
set_option maxRecDepth 1000000 in
theorem parse_any (s : ByteArray) (w : World) (hT : Tabs w) (hE : ErrT w) : Calls Tryd.prog 16 #[.string s] w fun e w' => ∃ a, e = .returned (.tuple #[.agg (drvCells (parseV s) a), .int .i64 (parseE s)]) ∧ DrvAt w' (parseV s) a ∧ Below w.heap.size w w' := by
  have h2 : 2 < w.heap.size := World.block_lt_of_cell? w _ hE
  have HT := Lib.hid hT
  have HE := Lib.hid hE
  obtain ⟨b0, hb0⟩ : ∃ b0, Hid (w.heap.size = b0) := ⟨_, rfl⟩
  by_cases hbig : 1048576 < s.size
  · have d1 : (1048576 : Int) < (s.size : Int) := by omega
    have hK0 : Hid ((w.alloc (.cells #[.slice none 0 0, .slice none 0 0, .slice none 0 0, .string ⟨#[]⟩, .string ⟨#[]⟩, .slice none 0 0, .slice none 0 0] 29)).heap[b0]? = some (.cells #[.slice none 0 0, .slice none 0 0, .slice none 0 0, .string ⟨#[]⟩, .string ⟨#[]⟩, .slice none 0 0, .slice none 0 0] 29 (0, 0))) := by rw [← hb0.out]; exact heap_alloc_new w _
    have HBf : Hid (Blk ((w.alloc (.cells #[.slice none 0 0, .slice none 0 0, .slice none 0 0, .string ⟨#[]⟩, .string ⟨#[]⟩, .slice none 0 0, .slice none 0 0] 29)).setRow b0 #[.slice none 0 0, .slice none 0 0, .slice none 0 0, .string ⟨#[]⟩, .string ⟨#[]⟩, .slice none 0 0, .slice none 0 0]) b0 29 #[.slice none 0 0, .slice none 0 0, .slice none 0 0, .string ⟨#[]⟩, .string ⟨#[]⟩, .slice none 0 0, .slice none 0 0]) := Blk.row (show Blk _ b0 29 #[.slice none 0 0, .slice none 0 0, .slice none 0 0, .string ⟨#[]⟩, .string ⟨#[]⟩, .slice none 0 0, .slice none 0 0] from hK0.out) _
    have HBF : Hid (Below w.heap.size w ((w.alloc (.cells #[.slice none 0 0, .slice none 0 0, .slice none 0 0, .string ⟨#[]⟩, .string ⟨#[]⟩, .slice none 0 0, .slice none 0 0] 29)).setRow b0 #[.slice none 0 0, .slice none 0 0, .slice none 0 0, .string ⟨#[]⟩, .string ⟨#[]⟩, .slice none 0 0, .slice none 0 0])) := below_setRow ((Below.refl _ w).alloc (Nat.le_refl _) _) (by rw [hb0.out]; exact Nat.le_refl _) _
    clear hT hE
    go_enter Tryd.func16, Tryd.ntmps16
    go_upto_region 1 with (fail)
    rw [hb0.out]
    go_wp2_with (first
      | refine wpList_store_row rfl 29 (.tmp 2) (.tmp 11) rfl b0 #[.slice none 0 0, .slice none 0 0, .slice none 0 0, .string ⟨#[]⟩, .string ⟨#[]⟩, .slice none 0 0, .slice none 0 0] rfl rfl 29 _ hK0.out (by kernel_rfl) rfl (by simp [Value.oneCell']) ?_
      | fail)
    first
      | refine bodyPost_ret (results_row_tmp rfl _ _ b0 29 #[.slice none 0 0, .slice none 0 0, .slice none 0 0, .string ⟨#[]⟩, .string ⟨#[]⟩, .slice none 0 0, .slice none 0 0] (0, 0) _ rfl HBf.out Tryd.underlying29 rfl (by kernel_rfl)) rfl ?_
      | refine bodyPost_end (results_row_tmp rfl _ _ b0 29 #[.slice none 0 0, .slice none 0 0, .slice none 0 0, .string ⟨#[]⟩, .string ⟨#[]⟩, .slice none 0 0, .slice none 0 0] (0, 0) _ rfl HBf.out Tryd.underlying29 rfl (by kernel_rfl)) rfl ?_
    exact parse_ret (d := emptyD) (a := nilA) rfl (parsed_big hbig) (empty_at _) HBF.out
  · have d1 : ¬ (1048576 : Int) < (s.size : Int) := by omega
    have hsmall := Lib.hid hbig
    clear hbig
    obtain ⟨g, hgg⟩ : ∃ g, Hid (b0 + 1 = g) := ⟨_, rfl⟩
    have hg2 : 2 < g := by have h1 := hb0.out; have h3 := hgg.out; omega
    have HW : Hid (Below w.heap.size w ((w.alloc (.cells #[.slice none 0 0, .slice none 0 0, .slice none 0 0, .string ⟨#[]⟩, .string ⟨#[]⟩, .slice none 0 0, .slice none 0 0] 29)).alloc (.cells #[.string s, .nilIface] 84))) := ((Below.refl _ w).alloc (Nat.le_refl _) _).alloc (by rw [World.size_alloc]; omega) _
    have HB0 : Hid (Blk ((w.alloc (.cells #[.slice none 0 0, .slice none 0 0, .slice none 0 0, .string ⟨#[]⟩, .string ⟨#[]⟩, .slice none 0 0, .slice none 0 0] 29)).alloc (.cells #[.string s, .nilIface] 84)) b0 29 #[.slice none 0 0, .slice none 0 0, .slice none 0 0, .string ⟨#[]⟩, .string ⟨#[]⟩, .slice none 0 0, .slice none 0 0]) := by rw [← hb0.out]; exact (Blk.new w 29 _).alloc _
    have HR0 : Hid (RdSt ((w.alloc (.cells #[.slice none 0 0, .slice none 0 0, .slice none 0 0, .string ⟨#[]⟩, .string ⟨#[]⟩, .slice none 0 0, .slice none 0 0] 29)).alloc (.cells #[.string s, .nilIface] 84)) g (some s.data.toList)) := by
      rw [Hid]
      show Blk _ g 84 #[.string (tx s.data.toList), .nilIface]
      rw [tx_toList, ← hgg.out, ← hb0.out]
      exact blk_alloc2 w _ 84 _
    clear hT hE
    go_enter Tryd.func16, Tryd.ntmps16
    go_upto_region 4 with (fail)
    rw [hb0.out, hgg.out]
    generalize (w.alloc (.cells #[.slice none 0 0, .slice none 0 0, .slice none 0 0, .string ⟨#[]⟩, .string ⟨#[]⟩, .slice none 0 0, .slice none 0 0] 29)).alloc (.cells #[.string s, .nilIface] 84) = W0 at *
    have HE0 : Hid (ErrT W0) := HE.out.below HW.out
    have HD := Lib.hid (deriv_any g (some s.data.toList) W0 (by omega) (HT.out.below HW.out) (fun l e => by injection e with e; rw [← e]; have := hsmall.out; simp; omega) HR0.out)
    go_upto_region 5 with (first
      | (go_at_call 44; refine HD.out.mono ?_; rintro e w1 ⟨A0, n0, c0, A1, n1, c1, A2, n2, c2, q3, q4, A5, n5, c5, A6, n6, c6, rfl, hr, hk, hd⟩; have HR1 := Lib.hid hr; have HK1 := Lib.hid hk; have HD1 := Lib.hid hd; clear hr hk hd)
      | refine wpList_store_row rfl 29 (.tmp 5) (.tmp 16) rfl w1.heap.size #[.slice A0 n0 c0, .slice A1 n1 c1, .slice A2 n2 c2, .string q3, .string q4, .slice A5 n5 c5, .slice A6 n6 c6] rfl rfl 29 _ (heap_alloc_new w1 _) (by kernel_rfl) rfl (by simp [Value.oneCell']) ?_
      | fail)
    clear HD
    have hbw0 : Hid (b0 ≤ W0.heap.size) := by have h1 := hb0.out; have h3 := HW.out.size; rw [Hid]; omega
    obtain ⟨b5, hb5⟩ : ∃ b5, Hid (w1.heap.size = b5) := ⟨_, rfl⟩
    have hgl1 : Hid (g < b5) := by rw [← hb5.out]; exact HR1.out.lt
    have hb05 : Hid (b0 < b5) := by have h1 := hgl1.out; have h3 := hgg.out; rw [Hid]; omega
    rw [hb5.out]
    have HBW : Hid (Below b5 w1 ((w1.alloc (.cells #[.slice none 0 0, .slice none 0 0, .slice none 0 0, .string ⟨#[]⟩, .string ⟨#[]⟩, .slice none 0 0, .slice none 0 0] 29)).setRow b5 #[.slice A0 n0 c0, .slice A1 n1 c1, .slice A2 n2 c2, .string q3, .string q4, .slice A5 n5 c5, .slice A6 n6 c6])) := below_setRow ((Below.refl b5 w1).alloc (by rw [← hb5.out]; exact Nat.le_refl _) _) (Nat.le_refl _) _
    have HB5 : Hid (Blk ((w1.alloc (.cells #[.slice none 0 0, .slice none 0 0, .slice none 0 0, .string ⟨#[]⟩, .string ⟨#[]⟩, .slice none 0 0, .slice none 0 0] 29)).setRow b5 #[.slice A0 n0 c0, .slice A1 n1 c1, .slice A2 n2 c2, .string q3, .string q4, .slice A5 n5 c5, .slice A6 n6 c6]) b5 29 #[.slice A0 n0 c0, .slice A1 n1 c1, .slice A2 n2 c2, .string q3, .string q4, .slice A5 n5 c5, .slice A6 n6 c6]) := by
      have h1 := Blk.new w1 29 #[.slice none 0 0, .slice none 0 0, .slice none 0 0, .string ⟨#[]⟩, .string ⟨#[]⟩, .slice none 0 0, .slice none 0 0]
      rw [hb5.out] at h1
      exact h1.row _
    have HR2 : Hid (RdSt ((w1.alloc (.cells #[.slice none 0 0, .slice none 0 0, .slice none 0 0, .string ⟨#[]⟩, .string ⟨#[]⟩, .slice none 0 0, .slice none 0 0] 29)).setRow b5 #[.slice A0 n0 c0, .slice A1 n1 c1, .slice A2 n2 c2, .string q3, .string q4, .slice A5 n5 c5, .slice A6 n6 c6]) g ((rdD s.data.toList).map (·.2))) := HR1.out.kept hgl1.out HBW.out
    have HB02 : Hid (Blk ((w1.alloc (.cells #[.slice none 0 0, .slice none 0 0, .slice none 0 0, .string ⟨#[]⟩, .string ⟨#[]⟩, .slice none 0 0, .slice none 0 0] 29)).setRow b5 #[.slice A0 n0 c0, .slice A1 n1 c1, .slice A2 n2 c2, .string q3, .string q4, .slice A5 n5 c5, .slice A6 n6 c6]) b0 29 #[.slice none 0 0, .slice none 0 0, .slice none 0 0, .string ⟨#[]⟩, .string ⟨#[]⟩, .slice none 0 0, .slice none 0 0]) := (HB0.out.keptK HK1.out (by have := hgg.out; omega)).below HBW.out hb05.out
    have HK2 : Hid (Kept g W0 ((w1.alloc (.cells #[.slice none 0 0, .slice none 0 0, .slice none 0 0, .string ⟨#[]⟩, .string ⟨#[]⟩, .slice none 0 0, .slice none 0 0] 29)).setRow b5 #[.slice A0 n0 c0, .slice A1 n1 c1, .slice A2 n2 c2, .string q3, .string q4, .slice A5 n5 c5, .slice A6 n6 c6])) := HK1.out.belowB HBW.out (by rw [← hb5.out]; exact HK1.out.size)
    have HD2 : Hid (∀ p, rdD s.data.toList = some p → #[.slice A0 n0 c0, .slice A1 n1 c1, .slice A2 n2 c2, .string q3, .string q4, .slice A5 n5 c5, .slice A6 n6 c6] = drvCells p.1 ⟨A0, A1, A2, A5, A6, c0, c1, c2, c5, c6⟩ ∧ DrvAt (wipe b0 ((w1.alloc (.cells #[.slice none 0 0, .slice none 0 0, .slice none 0 0, .string ⟨#[]⟩, .string ⟨#[]⟩, .slice none 0 0, .slice none 0 0] 29)).setRow b5 #[.slice A0 n0 c0, .slice A1 n1 c1, .slice A2 n2 c2, .string q3, .string q4, .slice A5 n5 c5, .slice A6 n6 c6])) p.1 ⟨A0, A1, A2, A5, A6, c0, c1, c2, c5, c6⟩) := fun p e => ⟨(HD1.out p e).1, ((HD1.out p e).2 b0 hbw0.out).keptW ((Kept.refl b0 w1).below (by rw [hb5.out]; exact HBW.out))⟩
    clear HR1 HK1 HD1 HB0 HR0 HBW
    generalize (w1.alloc (.cells #[.slice none 0 0, .slice none 0 0, .slice none 0 0, .string ⟨#[]⟩, .string ⟨#[]⟩, .slice none 0 0, .slice none 0 0] 29)).setRow b5 #[.slice A0 n0 c0, .slice A1 n1 c1, .slice A2 n2 c2, .string q3, .string q4, .slice A5 n5 c5, .slice A6 n6 c6] = W2 at *
    have HE2 : Hid (ErrT W2) := HE0.out.kept hg2 HK2.out
    have HL2 : Hid (Below w.heap.size w W2) := HW.out.trans (HK2.out.rest (by have h1 := hb0.out; have h3 := hgg.out; omega) HW.out.size)
    cases hrd : rdD s.data.toList with
    | none =>
      rw [hrd] at HR2
      have hnone := Lib.hid (parsed_none hsmall.out (show parseD s.data.toList = none by unfold parseD; rw [hrd]; rfl))
      clear hrd HD2
      have HF := Lib.hid (fail_any g none W2 HR2.out)
      obtain ⟨sc, nc, hbk1⟩ := HR2.out
      have hbkc := Lib.hid hbk1
      clear hbk1
      have p0 : W2.cell? ⟨g, 0, none⟩ = some (.string sc) := hbkc.out.cell 0
      cases hem : sc.toList.isEmpty
      · go_upto_region 7 with (first
          | (go_at_call 45; refine HF.out.mono ?_; rintro e w3 ⟨rfl, hr, hk⟩; have HR3 := Lib.hid hr; have HK3 := Lib.hid hk; clear hr hk)
          | fail)
        have HB03 := Lib.hid (HB02.out.keptK HK3.out (by have := hgg.out; omega))
        have HL3 : Hid (Below w.heap.size w w3) := HL2.out.trans (HK3.out.rest (by have h1 := hb0.out; have h3 := hgg.out; omega) HL2.out.size)
        have HE3 : Hid (ErrT w3) := HE2.out.kept hg2 HK3.out
        clear p0 HF
        obtain ⟨sb, nb, hbk0⟩ := HR3.out
        have hbkb := Lib.hid hbk0
        clear hbk0
        have k1 : w3.cell? ⟨g, 1, none⟩ = some (.iface 87 (.agg #[.int .i64 (nb : Int)])) := hbkb.out.cell 1
        have hgl := hbkb.out.lt
        have HA := Lib.hid (as_hit nb w3.heap.size #[.int .i64 0] (w3.alloc (.cells #[.int .i64 0] 87)) ((HE3.out).alloc _) (Blk.new w3 87 _) rfl)
        go_upto_region 9 with (first
          | (go_at_call 46; refine HA.out.mono ?_; rintro e w5 ⟨rfl, hw⟩; have HB5 : Hid (Below w3.heap.size w3 w5) := (by rw [hw]; exact as_below w3 _ _ _ _ _); clear hw)
          | fail)
        clear HA
        have hK5 : Hid (w5.heap[b0]? = some (.cells #[.slice none 0 0, .slice none 0 0, .slice none 0 0, .string ⟨#[]⟩, .string ⟨#[]⟩, .slice none 0 0, .slice none 0 0] 29 (0, 0))) := HB03.out.below HB5.out HB03.out.lt
        have HBf : Hid (Blk (w5.setRow b0 #[.slice none 0 0, .slice none 0 0, .slice none 0 0, .string ⟨#[]⟩, .string ⟨#[]⟩, .slice none 0 0, .slice none 0 0]) b0 29 #[.slice none 0 0, .slice none 0 0, .slice none 0 0, .string ⟨#[]⟩, .string ⟨#[]⟩, .slice none 0 0, .slice none 0 0]) := Blk.row (show Blk w5 b0 29 #[.slice none 0 0, .slice none 0 0, .slice none 0 0, .string ⟨#[]⟩, .string ⟨#[]⟩, .slice none 0 0, .slice none 0 0] from hK5.out) _
        have HBF : Hid (Below w.heap.size w (w5.setRow b0 #[.slice none 0 0, .slice none 0 0, .slice none 0 0, .string ⟨#[]⟩, .string ⟨#[]⟩, .slice none 0 0, .slice none 0 0])) := below_setRow (HL3.out.trans (HB5.out.mono HL3.out.size)) (by rw [hb0.out]; exact Nat.le_refl _) _
        go_wp2_with (first
          | refine wpList_store_row rfl 29 (.tmp 2) (.tmp 30) rfl b0 #[.slice none 0 0, .slice none 0 0, .slice none 0 0, .string ⟨#[]⟩, .string ⟨#[]⟩, .slice none 0 0, .slice none 0 0] rfl rfl 29 _ hK5.out (by kernel_rfl) rfl (by simp [Value.oneCell']) ?_
          | fail)
        first
          | refine bodyPost_ret (results_row_tmp rfl _ _ b0 29 #[.slice none 0 0, .slice none 0 0, .slice none 0 0, .string ⟨#[]⟩, .string ⟨#[]⟩, .slice none 0 0, .slice none 0 0] (0, 0) _ rfl HBf.out Tryd.underlying29 rfl (by kernel_rfl)) rfl ?_
          | refine bodyPost_end (results_row_tmp rfl _ _ b0 29 #[.slice none 0 0, .slice none 0 0, .slice none 0 0, .string ⟨#[]⟩, .string ⟨#[]⟩, .slice none 0 0, .slice none 0 0] (0, 0) _ rfl HBf.out Tryd.underlying29 rfl (by kernel_rfl)) rfl ?_
        exact parse_ret (d := emptyD) (a := nilA) rfl (hnone.out) (empty_at _) HBF.out
      · go_upto_region 7 with (fail)
        clear p0 HF
        obtain ⟨sb, nb, hbk0⟩ := HR2.out
        have hbkb := Lib.hid hbk0
        clear hbk0
        have k1 : W2.cell? ⟨g, 1, none⟩ = some (.iface 87 (.agg #[.int .i64 (nb : Int)])) := hbkb.out.cell 1
        have hgl := hbkb.out.lt
        have HA := Lib.hid (as_hit nb W2.heap.size #[.int .i64 0] (W2.alloc (.cells #[.int .i64 0] 87)) ((HE2.out).alloc _) (Blk.new W2 87 _) rfl)
        go_upto_region 9 with (first
          | (go_at_call 46; refine HA.out.mono ?_; rintro e w5 ⟨rfl, hw⟩; have HB5 : Hid (Below W2.heap.size W2 w5) := (by rw [hw]; exact as_below W2 _ _ _ _ _); clear hw)
          | fail)
        clear HA
        have hK5 : Hid (w5.heap[b0]? = some (.cells #[.slice none 0 0, .slice none 0 0, .slice none 0 0, .string ⟨#[]⟩, .string ⟨#[]⟩, .slice none 0 0, .slice none 0 0] 29 (0, 0))) := HB02.out.below HB5.out HB02.out.lt
        have HBf : Hid (Blk (w5.setRow b0 #[.slice none 0 0, .slice none 0 0, .slice none 0 0, .string ⟨#[]⟩, .string ⟨#[]⟩, .slice none 0 0, .slice none 0 0]) b0 29 #[.slice none 0 0, .slice none 0 0, .slice none 0 0, .string ⟨#[]⟩, .string ⟨#[]⟩, .slice none 0 0, .slice none 0 0]) := Blk.row (show Blk w5 b0 29 #[.slice none 0 0, .slice none 0 0, .slice none 0 0, .string ⟨#[]⟩, .string ⟨#[]⟩, .slice none 0 0, .slice none 0 0] from hK5.out) _
        have HBF : Hid (Below w.heap.size w (w5.setRow b0 #[.slice none 0 0, .slice none 0 0, .slice none 0 0, .string ⟨#[]⟩, .string ⟨#[]⟩, .slice none 0 0, .slice none 0 0])) := below_setRow (HL2.out.trans (HB5.out.mono HL2.out.size)) (by rw [hb0.out]; exact Nat.le_refl _) _
        go_wp2_with (first
          | refine wpList_store_row rfl 29 (.tmp 2) (.tmp 30) rfl b0 #[.slice none 0 0, .slice none 0 0, .slice none 0 0, .string ⟨#[]⟩, .string ⟨#[]⟩, .slice none 0 0, .slice none 0 0] rfl rfl 29 _ hK5.out (by kernel_rfl) rfl (by simp [Value.oneCell']) ?_
          | fail)
        first
          | refine bodyPost_ret (results_row_tmp rfl _ _ b0 29 #[.slice none 0 0, .slice none 0 0, .slice none 0 0, .string ⟨#[]⟩, .string ⟨#[]⟩, .slice none 0 0, .slice none 0 0] (0, 0) _ rfl HBf.out Tryd.underlying29 rfl (by kernel_rfl)) rfl ?_
          | refine bodyPost_end (results_row_tmp rfl _ _ b0 29 #[.slice none 0 0, .slice none 0 0, .slice none 0 0, .string ⟨#[]⟩, .string ⟨#[]⟩, .slice none 0 0, .slice none 0 0] (0, 0) _ rfl HBf.out Tryd.underlying29 rfl (by kernel_rfl)) rfl ?_
        exact parse_ret (d := emptyD) (a := nilA) rfl (hnone.out) (empty_at _) HBF.out
    | some p =>
      obtain ⟨d, r⟩ := p
      rw [hrd] at HR2
      obtain ⟨hcs, hda⟩ := HD2.out (d, r) hrd
      have HCS := Lib.hid hcs
      have HDA := Lib.hid hda
      clear hcs hda HD2
      have hbkc : Hid (Blk W2 g 84 #[.string (tx r), .nilIface]) := HR2.out
      have p1 : W2.cell? ⟨g, 1, none⟩ = some .nilIface := hbkc.out.cell 1
      cases r with
      | cons x t =>
        have hnone := Lib.hid (parsed_none hsmall.out (show parseD s.data.toList = none by unfold parseD; rw [hrd]; rfl))
        have HF := Lib.hid (fail_any g (some (x :: t)) W2 HR2.out)
        clear hrd p1
        obtain ⟨sc, hsc⟩ : ∃ sc, Hid (tx (x :: t) = sc) := ⟨_, rfl⟩
        rw [hsc.out] at hbkc
        have p0 : W2.cell? ⟨g, 0, none⟩ = some (.string sc) := hbkc.out.cell 0
        have hem : sc.toList.isEmpty = false := by rw [ByteArray.toList_eq, ← hsc.out]; rfl
        go_upto_region 7 with (first
          | (go_at_call 45; refine HF.out.mono ?_; rintro e w3 ⟨rfl, hr, hk⟩; have HR3 := Lib.hid hr; have HK3 := Lib.hid hk; clear hr hk)
          | fail)
        have HB03 := Lib.hid (HB02.out.keptK HK3.out (by have := hgg.out; omega))
        have HL3 : Hid (Below w.heap.size w w3) := HL2.out.trans (HK3.out.rest (by have h1 := hb0.out; have h3 := hgg.out; omega) HL2.out.size)
        have HE3 : Hid (ErrT w3) := HE2.out.kept hg2 HK3.out
        clear p0 HF
        obtain ⟨sb, nb, hbk0⟩ := HR3.out
        have hbkb := Lib.hid hbk0
        clear hbk0
        have k1 : w3.cell? ⟨g, 1, none⟩ = some (.iface 87 (.agg #[.int .i64 (nb : Int)])) := hbkb.out.cell 1
        have hgl := hbkb.out.lt
        have HA := Lib.hid (as_hit nb w3.heap.size #[.int .i64 0] (w3.alloc (.cells #[.int .i64 0] 87)) ((HE3.out).alloc _) (Blk.new w3 87 _) rfl)
        go_upto_region 9 with (first
          | (go_at_call 46; refine HA.out.mono ?_; rintro e w5 ⟨rfl, hw⟩; have HB5 : Hid (Below w3.heap.size w3 w5) := (by rw [hw]; exact as_below w3 _ _ _ _ _); clear hw)
          | fail)
        clear HA
        have hK5 : Hid (w5.heap[b0]? = some (.cells #[.slice none 0 0, .slice none 0 0, .slice none 0 0, .string ⟨#[]⟩, .string ⟨#[]⟩, .slice none 0 0, .slice none 0 0] 29 (0, 0))) := HB03.out.below HB5.out HB03.out.lt
        have HBf : Hid (Blk (w5.setRow b0 #[.slice none 0 0, .slice none 0 0, .slice none 0 0, .string ⟨#[]⟩, .string ⟨#[]⟩, .slice none 0 0, .slice none 0 0]) b0 29 #[.slice none 0 0, .slice none 0 0, .slice none 0 0, .string ⟨#[]⟩, .string ⟨#[]⟩, .slice none 0 0, .slice none 0 0]) := Blk.row (show Blk w5 b0 29 #[.slice none 0 0, .slice none 0 0, .slice none 0 0, .string ⟨#[]⟩, .string ⟨#[]⟩, .slice none 0 0, .slice none 0 0] from hK5.out) _
        have HBF : Hid (Below w.heap.size w (w5.setRow b0 #[.slice none 0 0, .slice none 0 0, .slice none 0 0, .string ⟨#[]⟩, .string ⟨#[]⟩, .slice none 0 0, .slice none 0 0])) := below_setRow (HL3.out.trans (HB5.out.mono HL3.out.size)) (by rw [hb0.out]; exact Nat.le_refl _) _
        go_wp2_with (first
          | refine wpList_store_row rfl 29 (.tmp 2) (.tmp 30) rfl b0 #[.slice none 0 0, .slice none 0 0, .slice none 0 0, .string ⟨#[]⟩, .string ⟨#[]⟩, .slice none 0 0, .slice none 0 0] rfl rfl 29 _ hK5.out (by kernel_rfl) rfl (by simp [Value.oneCell']) ?_
          | fail)
        first
          | refine bodyPost_ret (results_row_tmp rfl _ _ b0 29 #[.slice none 0 0, .slice none 0 0, .slice none 0 0, .string ⟨#[]⟩, .string ⟨#[]⟩, .slice none 0 0, .slice none 0 0] (0, 0) _ rfl HBf.out Tryd.underlying29 rfl (by kernel_rfl)) rfl ?_
          | refine bodyPost_end (results_row_tmp rfl _ _ b0 29 #[.slice none 0 0, .slice none 0 0, .slice none 0 0, .string ⟨#[]⟩, .string ⟨#[]⟩, .slice none 0 0, .slice none 0 0] (0, 0) _ rfl HBf.out Tryd.underlying29 rfl (by kernel_rfl)) rfl ?_
        exact parse_ret (d := emptyD) (a := nilA) rfl (hnone.out) (empty_at _) HBF.out
      | nil =>
        have hpd := Lib.hid (show parseD s.data.toList = some d by unfold parseD; rw [hrd]; rfl)
        clear hrd
        have p0 : W2.cell? ⟨g, 0, none⟩ = some (.string ⟨#[]⟩) := hbkc.out.cell 0
        go_upto_region 7 with (fail)
        have hgl := hbkc.out.lt
        have HN := fun (t : Value) => Lib.hid (as_nil t (W2.alloc (.cells #[.int .i64 0] 87)))
        go_upto_region 10 with (first
          | (go_at_call 46; refine (HN _).out.mono ?_; rintro e w5 ⟨rfl, hw⟩; have hw := hw.symm; subst hw)
          | fail)
        clear p0 p1 HN hgl
        have HBn : Hid (Below W2.heap.size W2 (W2.alloc (.cells #[.int .i64 0] 87))) := (Below.refl _ _).alloc (Nat.le_refl _) _
        generalize W2.alloc (.cells #[.int .i64 0] 87) = W6 at *
        have hK6 : Hid (W6.heap[b5]? = some (.cells #[.slice A0 n0 c0, .slice A1 n1 c1, .slice A2 n2 c2, .string q3, .string q4, .slice A5 n5 c5, .slice A6 n6 c6] 29 (0, 0))) := HB5.out.below HBn.out HB5.out.lt
        have HD6 := Lib.hid (HDA.out.keptW ((Kept.refl b0 W2).below HBn.out))
        have HRt := Lib.hid (right_any d _ W6 HD6.out.unwipe)
        rw [← HCS.out] at HRt
        have HB06 := Lib.hid (HB02.out.below HBn.out HB02.out.lt)
        have HL6 : Hid (Below w.heap.size w W6) := HL2.out.trans (HBn.out.mono HL2.out.size)
        obtain ⟨er, her⟩ : ∃ er, Hid (rightE d = er) := ⟨_, rfl⟩
        rw [her.out] at HRt
        go_upto_region 11 with (first
          | refine wpList_load_row rfl 29 (.tmp 5) rfl b5 rfl 29 #[.slice A0 n0 c0, .slice A1 n1 c1, .slice A2 n2 c2, .string q3, .string q4, .slice A5 n5 c5, .slice A6 n6 c6] (0, 0) _ hK6.out Tryd.underlying29 rfl (by kernel_rfl) ?_
          | (go_at_call 12; refine HRt.out.mono ?_; rintro e w7 ⟨rfl, hb⟩; have HBR := Lib.hid hb; clear hb)
          | fail)
        have hK7 : Hid (w7.heap[b0]? = some (.cells #[.slice none 0 0, .slice none 0 0, .slice none 0 0, .string ⟨#[]⟩, .string ⟨#[]⟩, .slice none 0 0, .slice none 0 0] 29 (0, 0))) := HB06.out.below HBR.out HB06.out.lt
        have hK57 : Hid (w7.heap[b5]? = some (.cells #[.slice A0 n0 c0, .slice A1 n1 c1, .slice A2 n2 c2, .string q3, .string q4, .slice A5 n5 c5, .slice A6 n6 c6] 29 (0, 0))) := by
          have h1 : Blk W6 b5 29 #[.slice A0 n0 c0, .slice A1 n1 c1, .slice A2 n2 c2, .string q3, .string q4, .slice A5 n5 c5, .slice A6 n6 c6] := hK6.out
          exact h1.below HBR.out h1.lt
        have HL7 : Hid (Below w.heap.size w w7) := HL6.out.trans (HBR.out.mono HL6.out.size)
        have HD7 := Lib.hid (HD6.out.keptW ((Kept.refl b0 W6).below HBR.out))
        clear HRt hK6
        by_cases he0 : er = 0
        · have HBf : Hid (Blk (w7.setRow b0 #[.slice A0 n0 c0, .slice A1 n1 c1, .slice A2 n2 c2, .string q3, .string q4, .slice A5 n5 c5, .slice A6 n6 c6]) b0 29 #[.slice A0 n0 c0, .slice A1 n1 c1, .slice A2 n2 c2, .string q3, .string q4, .slice A5 n5 c5, .slice A6 n6 c6]) := Blk.row (show Blk w7 b0 29 #[.slice none 0 0, .slice none 0 0, .slice none 0 0, .string ⟨#[]⟩, .string ⟨#[]⟩, .slice none 0 0, .slice none 0 0] from hK7.out) _
          have HBF : Hid (Below w.heap.size w (w7.setRow b0 #[.slice A0 n0 c0, .slice A1 n1 c1, .slice A2 n2 c2, .string q3, .string q4, .slice A5 n5 c5, .slice A6 n6 c6])) := below_setRow HL7.out (by rw [hb0.out]; exact Nat.le_refl _) _
          have HDF : Hid (DrvAt (w7.setRow b0 #[.slice A0 n0 c0, .slice A1 n1 c1, .slice A2 n2 c2, .string q3, .string q4, .slice A5 n5 c5, .slice A6 n6 c6]) d ⟨A0, A1, A2, A5, A6, c0, c1, c2, c5, c6⟩) := (HD7.out.keptW (kept_row b0 w7 #[.slice A0 n0 c0, .slice A1 n1 c1, .slice A2 n2 c2, .string q3, .string q4, .slice A5 n5 c5, .slice A6 n6 c6])).unwipe
          have hpg := Lib.hid (parsed_good hsmall.out hpd.out (her.out.trans he0))
          subst he0
          go_wp2_with (first
            | refine wpList_load_row rfl 29 (.tmp 5) rfl b5 rfl 29 #[.slice A0 n0 c0, .slice A1 n1 c1, .slice A2 n2 c2, .string q3, .string q4, .slice A5 n5 c5, .slice A6 n6 c6] (0, 0) _ hK57.out Tryd.underlying29 rfl (by kernel_rfl) ?_
            | refine wpList_store_row rfl 29 (.tmp 2) (.tmp 37) rfl b0 #[.slice A0 n0 c0, .slice A1 n1 c1, .slice A2 n2 c2, .string q3, .string q4, .slice A5 n5 c5, .slice A6 n6 c6] rfl rfl 29 _ hK7.out (by kernel_rfl) rfl (by simp [Value.oneCell']) ?_
            | fail)
          first
            | refine bodyPost_ret (results_row_tmp rfl _ _ b0 29 #[.slice A0 n0 c0, .slice A1 n1 c1, .slice A2 n2 c2, .string q3, .string q4, .slice A5 n5 c5, .slice A6 n6 c6] (0, 0) _ rfl HBf.out Tryd.underlying29 rfl (by kernel_rfl)) rfl ?_
            | refine bodyPost_end (results_row_tmp rfl _ _ b0 29 #[.slice A0 n0 c0, .slice A1 n1 c1, .slice A2 n2 c2, .string q3, .string q4, .slice A5 n5 c5, .slice A6 n6 c6] (0, 0) _ rfl HBf.out Tryd.underlying29 rfl (by kernel_rfl)) rfl ?_
          exact parse_ret HCS.out hpg.out HDF.out HBF.out
        · have hpb := Lib.hid (parsed_bad hsmall.out hpd.out (fun e => he0 (her.out.symm.trans e)))
          rw [her.out] at hpb
          have d2 : (er == 0) = false := by simpa using he0
          have HBf : Hid (Blk (w7.setRow b0 #[.slice none 0 0, .slice none 0 0, .slice none 0 0, .string ⟨#[]⟩, .string ⟨#[]⟩, .slice none 0 0, .slice none 0 0]) b0 29 #[.slice none 0 0, .slice none 0 0, .slice none 0 0, .string ⟨#[]⟩, .string ⟨#[]⟩, .slice none 0 0, .slice none 0 0]) := Blk.row (show Blk w7 b0 29 #[.slice none 0 0, .slice none 0 0, .slice none 0 0, .string ⟨#[]⟩, .string ⟨#[]⟩, .slice none 0 0, .slice none 0 0] from hK7.out) _
          have HBF : Hid (Below w.heap.size w (w7.setRow b0 #[.slice none 0 0, .slice none 0 0, .slice none 0 0, .string ⟨#[]⟩, .string ⟨#[]⟩, .slice none 0 0, .slice none 0 0])) := below_setRow HL7.out (by rw [hb0.out]; exact Nat.le_refl _) _
          go_wp2_with (first
            | refine wpList_store_row rfl 29 (.tmp 2) (.tmp 35) rfl b0 #[.slice none 0 0, .slice none 0 0, .slice none 0 0, .string ⟨#[]⟩, .string ⟨#[]⟩, .slice none 0 0, .slice none 0 0] rfl rfl 29 _ hK7.out (by kernel_rfl) rfl (by simp [Value.oneCell']) ?_
            | fail)
          first
            | refine bodyPost_ret (results_row_tmp rfl _ _ b0 29 #[.slice none 0 0, .slice none 0 0, .slice none 0 0, .string ⟨#[]⟩, .string ⟨#[]⟩, .slice none 0 0, .slice none 0 0] (0, 0) _ rfl HBf.out Tryd.underlying29 rfl (by kernel_rfl)) rfl ?_
            | refine bodyPost_end (results_row_tmp rfl _ _ b0 29 #[.slice none 0 0, .slice none 0 0, .slice none 0 0, .string ⟨#[]⟩, .string ⟨#[]⟩, .slice none 0 0, .slice none 0 0] (0, 0) _ rfl HBf.out Tryd.underlying29 rfl (by kernel_rfl)) rfl ?_
          exact parse_ret (d := emptyD) (a := nilA) rfl hpb.out (empty_at _) HBF.out
end Go.Proofs.YtbldognffppeiaaDoor
