/- stillroomref08.text, walked. -/
import Derived.Test.YtbldognffppeiaaDoorAtText
import Derived.Outline
namespace Go.Proofs.YtbldognffppeiaaDoor
open Go.RowKit Quo Go.Sort
set_option linter.unusedSimpArgs false
set_option linter.unusedVariables false
/-- Every text of the derivation is small. -/
structure Sized (d : Drv) : Prop where
  so : ∀ x ∈ d.outs, x.1.size ≤ 1048576 ∧ x.2.1.size ≤ 1048576 ∧ x.2.2.size ≤ 1048576
  si : ∀ x ∈ d.ins, x.1.size ≤ 1048576 ∧ ∀ s ∈ x.2, s.size ≤ 1048576
  ss : ∀ s ∈ d.srcs, s.size ≤ 1048576
  s3 : d.sys.size ≤ 1048576
  s4 : d.bld.size ≤ 1048576
  sa : ∀ s ∈ d.args, s.size ≤ 1048576
  se : ∀ x ∈ d.env, x.1.size ≤ 1048576 ∧ x.2.size ≤ 1048576
/-- Its lists are short. -/
structure Short (d : Drv) : Prop where
  c0 : d.outs.length ≤ 1024
  c1 : d.ins.length ≤ 1024
  c2 : d.srcs.length ≤ 1024
  c5 : d.args.length ≤ 1024
  c6 : d.env.length ≤ 1024
  ci : ∀ x ∈ d.ins, x.2.length ≤ 1024
theorem short_of {d : Drv} (h : rightE d = 0) : Short d := by
  obtain ⟨h1, h2, _⟩ : ¬ big0 d ∧ ¬ bigIns d.ins ∧ formD d = true := by
    unfold rightE at h
    split at h
    · cases h
    · rename_i h1
      split at h
      · rename_i h2
        exact ⟨fun hh => h1 (.inl hh), fun hh => h1 (.inr hh), h2⟩
      · cases h
  unfold big0 at h1
  refine ⟨by omega, by omega, by omega, by omega, by omega, fun x hx => ?_⟩
  obtain ⟨j, hj, e⟩ := List.getElem_of_mem hx
  rcases Nat.lt_or_ge 1024 x.2.length with h3 | h3
  · exact absurd ⟨j, x, by rw [List.getElem?_eq_getElem hj, e], h3⟩ h2
  · exact h3
theorem c40 : (⟨#[40]⟩ : ByteArray) = tx [40] := rfl
theorem c41 : (⟨#[41]⟩ : ByteArray) = tx [41] := rfl
theorem c44 : (⟨#[44]⟩ : ByteArray) = tx [44] := rfl
theorem quoteQ {s : ByteArray} (hs : s.size ≤ 1048576) : ∃ q : ByteArray, Hid (q = tx (quoS s)) ∧ q.size ≤ 2097154 ∧ Hid (∀ W : World, ∀ d os, Calls Tryd.prog 18 #[.string s] (grow (redrawn W d) os) fun e w'' => e = .returned (.string q) ∧ ∃ p : Regrown, w'' = grow (redrawn W p.d) p.os) :=
  ⟨_, rfl, by rw [tx_size]; exact quoS_length s hs, fun W d os => Calls.regrown_of (refQuote_any s _ (by omega))⟩
theorem commaQ (i : Nat) : ∃ q : ByteArray, Hid (q = tx (commaL i)) ∧ q.size ≤ 1 ∧ Hid (∀ W : World, ∀ d os, Calls Tryd.prog 54 #[.int .i64 i] (grow (redrawn W d) os) fun e w'' => e = .returned (.string q) ∧ ∃ p : Regrown, w'' = grow (redrawn W p.d) p.os) :=
  ⟨_, rfl, by rw [tx_size]; unfold commaL; split <;> simp, fun W d os => Calls.regrown_of (comma_any i _)⟩
theorem listQ {A : Option Addr} {l : List ByteArray} {c n : Nat} (hn : n = l.length) (hl : l.length ≤ 1024) (hs : ∀ s ∈ l, s.size ≤ 1048576) {w : World} (h : StrsAt w A l) : ∃ q : ByteArray, Hid (q = tx (listD l)) ∧ q.size ≤ 2147486722 ∧ Hid (∀ W : World, Below w.heap.size w W → ∀ d os, Calls Tryd.prog 55 #[.slice A n c] (grow (redrawn W d) os) fun e w'' => e = .returned (.string q) ∧ ∃ p : Regrown, w'' = grow (redrawn W p.d) p.os) :=
  ⟨_, rfl, by rw [tx_size]; exact Nat.le_trans (listD_length l 1024 hl hs) (by omega), fun W hb d os => Calls.regrown_of (by rw [hn]; exact refList_any A l c (by omega) hs _ (h.below (hb.trans ((below_regrown W d os).mono hb.size))))⟩
theorem out_step {T cm q1 q2 q3 : ByteArray} {X C Q1 Q2 Q3 : List UInt8} (hT : T = tx X) (hc : cm = tx C) (h1 : q1 = tx Q1) (h2 : q2 = tx Q2) (h3 : q3 = tx Q3) : T ++ cm ++ ⟨#[40]⟩ ++ q1 ++ ⟨#[44]⟩ ++ q2 ++ ⟨#[44]⟩ ++ q3 ++ ⟨#[41]⟩ = tx (X ++ (C ++ ([40] ++ Q1 ++ [44] ++ Q2 ++ [44] ++ Q3 ++ [41]))) := by
  rw [hT, hc, h1, h2, h3, c40, c41, c44]
  simp only [tx_app]
  congr 1
  simp
theorem two_step {T cm q1 q2 : ByteArray} {X C Q1 Q2 : List UInt8} (hT : T = tx X) (hc : cm = tx C) (h1 : q1 = tx Q1) (h2 : q2 = tx Q2) : T ++ cm ++ ⟨#[40]⟩ ++ q1 ++ ⟨#[44]⟩ ++ q2 ++ ⟨#[41]⟩ = tx (X ++ (C ++ ([40] ++ Q1 ++ [44] ++ Q2 ++ [41]))) := by
  rw [hT, hc, h1, h2, c40, c41, c44]
  simp only [tx_app]
  congr 1
  simp
theorem mid_step {T q2 q3 q4 q5 : ByteArray} {X L2 Q3 Q4 L5 : List UInt8} (hT : T = tx X) (h2 : q2 = tx L2) (h3 : q3 = tx Q3) (h4 : q4 = tx Q4) (h5 : q5 = tx L5) : T ++ ⟨#[93, 44]⟩ ++ q2 ++ ⟨#[44]⟩ ++ q3 ++ ⟨#[44]⟩ ++ q4 ++ ⟨#[44]⟩ ++ q5 ++ ⟨#[44, 91]⟩ = tx (X ++ [93, 44] ++ L2 ++ [44] ++ Q3 ++ [44] ++ Q4 ++ [44] ++ L5 ++ [44, 91]) := by
  rw [hT, h2, h3, h4, h5, c44, show (⟨#[93, 44]⟩ : ByteArray) = tx [93, 44] from rfl, show (⟨#[44, 91]⟩ : ByteArray) = tx [44, 91] from rfl]
  simp only [tx_app]
set_option maxHeartbeats 8000000 in
set_option maxRecDepth 1000000 in
theorem refText_any (d : Drv) (a : DrvA) (hS : Short d) (hZ : Sized d) (w : World) (h : DrvAt w d a) : Calls Tryd.prog 31 #[.agg (drvCells d a)] w fun e w' => e = .returned (.string (tx (textD d))) ∧ Below w.heap.size w w' := by
  have hb1 := Lib.hid ((Below.refl w.heap.size w).alloc (Nat.le_refl _) (.cells (drvCells d a) 29))
  have H1 := Lib.hid (h.below hb1.out)
  have hbk : Hid ((w.alloc (.cells (drvCells d a) 29)).heap[w.heap.size]? = some (.cells (drvCells d a) 29 (0, 0))) := heap_alloc_new w _
  have HS := Lib.hid hS
  have HZ := Lib.hid hZ
  obtain ⟨n0, hn0⟩ : ∃ n, Hid (n = d.outs.length) := ⟨_, rfl⟩
  obtain ⟨n1, hn1⟩ : ∃ n, Hid (n = d.ins.length) := ⟨_, rfl⟩
  obtain ⟨n2, hn2⟩ : ∃ n, Hid (n = d.srcs.length) := ⟨_, rfl⟩
  obtain ⟨n5, hn5⟩ : ∃ n, Hid (n = d.args.length) := ⟨_, rfl⟩
  obtain ⟨n6, hn6⟩ : ∃ n, Hid (n = d.env.length) := ⟨_, rfl⟩
  have b0 : n0 ≤ 1024 := by rw [hn0.out]; exact hS.c0
  have b1 : n1 ≤ 1024 := by rw [hn1.out]; exact hS.c1
  have b6 : n6 ≤ 1024 := by rw [hn6.out]; exact hS.c6
  clear h hS hZ
  have hdc : Hid (drvCells d a = #[.slice a.A0 n0 a.c0, .slice a.A1 n1 a.c1, .slice a.A2 n2 a.c2, .string d.sys, .string d.bld, .slice a.A5 n5 a.c5, .slice a.A6 n6 a.c6]) := by unfold drvCells; rw [← hn0.out, ← hn1.out, ← hn2.out, ← hn5.out, ← hn6.out]; rfl
  rw [hdc.out] at hb1 hbk H1 ⊢
  obtain ⟨A0, A1, A2, A5, A6, c0, c1, c2, c5, c6⟩ := a
  dsimp only at hb1 hbk H1 ⊢
  clear hdc
  go_enter Tryd.func31, Tryd.ntmps31
  go_upto_region 1 with (fail)
  obtain ⟨gd, hgd⟩ : ∃ gd, Hid (gd = w.heap.size) := ⟨_, rfl⟩
  have hBK : Hid (Blk (w.alloc (.cells #[.slice A0 n0 c0, .slice A1 n1 c1, .slice A2 n2 c2, .string d.sys, .string d.bld, .slice A5 n5 c5, .slice A6 n6 c6] 29)) gd 29 #[.slice A0 n0 c0, .slice A1 n1 c1, .slice A2 n2 c2, .string d.sys, .string d.bld, .slice A5 n5 c5, .slice A6 n6 c6]) := by rw [hgd.out]; exact hbk.out
  rw [← hgd.out]
  clear hbk
  generalize w.alloc (.cells #[.slice A0 n0 c0, .slice A1 n1 c1, .slice A2 n2 c2, .string d.sys, .string d.bld, .slice A5 n5 c5, .slice A6 n6 c6] 29) = wb at *
  have hF : Hid (∀ W, Below wb.heap.size wb W → W.cell? ⟨gd, 0, none⟩ = some (.slice A0 n0 c0) ∧ W.cell? ⟨gd, 1, none⟩ = some (.slice A1 n1 c1) ∧ W.cell? ⟨gd, 2, none⟩ = some (.slice A2 n2 c2) ∧ W.cell? ⟨gd, 3, none⟩ = some (.string d.sys) ∧ W.cell? ⟨gd, 4, none⟩ = some (.string d.bld) ∧ W.cell? ⟨gd, 5, none⟩ = some (.slice A5 n5 c5) ∧ W.cell? ⟨gd, 6, none⟩ = some (.slice A6 n6 c6)) := fun W hb =>
    have h := hBK.out.below hb hBK.out.lt
    ⟨h.cell 0, h.cell 1, h.cell 2, h.cell 3, h.cell 4, h.cell 5, h.cell 6⟩
  have hr0 := Lib.hid (Below.refl wb.heap.size wb)
  obtain ⟨T0, hT0⟩ : ∃ T : ByteArray, Hid (T = tx [68, 101, 114, 105, 118, 101, 40, 91]) := ⟨_, rfl⟩
  have hT0s : T0.size = 8 := by rw [hT0.out]; rfl
  go_upto_block 0 with (fail)
  go_cut [3] (fun t3 wx => ∃ T : ByteArray, t3 = .string T ∧ T.size ≤ 6442462216 ∧ Hid (T = tx ([68, 101, 114, 105, 118, 101, 40, 91] ++ joinC (d.outs.map outD))) ∧ Hid (Below wb.heap.size wb wx))
  case first =>
    as_aux_lemma =>
      go_wp2_with fail
      go_loopw [3, 4] (fun t3 t4 wr => ∃ (k : Nat) (T : ByteArray), t3 = .string T ∧ t4 = .int .i64 k ∧ k ≤ n0 ∧ T.size ≤ 8 + k * 6291467 ∧ Hid (T = tx ([68, 101, 114, 105, 118, 101, 40, 91] ++ joinC ((d.outs.map outD).take k))) ∧ Hid (Below wb.heap.size wb wr)) (fun _ t4 _ => n0 - (intOf t4).toNat)
      case atStart => exact ⟨0, T0, by rw [hT0.out]; rfl, rfl, Nat.zero_le _, by omega, by rw [Hid, hT0.out]; rfl, hr0⟩
      case round =>
        obtain ⟨k, T, rfl, rfl, hk, hT, hE, HB⟩ := hrel
        obtain ⟨f0, f1, f2, f3, f4, f5, f6⟩ := hF.out wr HB.out
        clear hT0s hr0
        by_cases hlt : k < n0
        · obtain ⟨x, hx⟩ : ∃ x, Hid (d.outs[k]? = some x) := ⟨_, List.getElem?_eq_getElem (by rw [← hn0.out]; exact hlt)⟩
          obtain ⟨g, o, eA, q1, q2, q3⟩ := H1.out.outs k x hx.out
          dsimp only at eA
          subst eA
          have r1 := (HB.out.cell (World.block_lt_of_cell? wb _ q1)).trans q1
          have r2 := (HB.out.cell (World.block_lt_of_cell? wb _ q2)).trans q2
          have r3 := (HB.out.cell (World.block_lt_of_cell? wb _ q3)).trans q3
          have d1 : (k : Int) < (n0 : Int) := by omega
          have d2 : (0 : Int) ≤ (k : Int) := by omega
          have hz := HZ.out.so x (List.mem_of_getElem? hx.out)
          obtain ⟨s1, hs1, hs1z, HC1⟩ := quoteQ hz.1
          obtain ⟨s2, hs2, hs2z, HC2⟩ := quoteQ hz.2.1
          obtain ⟨s3, hs3, hs3z, HC3⟩ := quoteQ hz.2.2
          obtain ⟨cm, hcm, hcmz, HC4⟩ := commaQ k
          have hstep := Lib.hid (joinC_step (d.outs.map outD) k (outD x) (by rw [List.getElem?_map, hx.out]; rfl))
          clear q1 q2 q3 hz f1 f2 f3 f4 f5 f6
          have hBW : Hid (Below wb.heap.size wb (wr.alloc (.cells #[.string x.1, .string x.2.1, .string x.2.2] 49))) := HB.out.alloc HB.out.size _
          have u0 : (wr.alloc (.cells #[.string x.1, .string x.2.1, .string x.2.2] 49)).cell? ⟨wr.heap.size, 0, none⟩ = some (.string x.1) := (Blk.new wr 49 _).cell 0
          have u1 : (wr.alloc (.cells #[.string x.1, .string x.2.1, .string x.2.2] 49)).cell? ⟨wr.heap.size, 1, none⟩ = some (.string x.2.1) := (Blk.new wr 49 _).cell 1
          have u2 : (wr.alloc (.cells #[.string x.1, .string x.2.1, .string x.2.2] 49)).cell? ⟨wr.heap.size, 2, none⟩ = some (.string x.2.2) := (Blk.new wr 49 _).cell 2
          go_upto_region 6 with (fail)
          clear r1 r2 r3 f0
          generalize wr.alloc (.cells #[.string x.1, .string x.2.1, .string x.2.2] 49) = W6 at *
          have k0 := cell_regrown u0
          have k1 := cell_regrown u1
          have k2 := cell_regrown u2
          have e1 : ¬ 9223372036854775807 < T.size + cm.size := by omega
          have e2 : ¬ 9223372036854775807 < T.size + cm.size + 1 := by omega
          have e3 : ¬ 9223372036854775807 < T.size + cm.size + 1 + s1.size := by omega
          have e4 : ¬ 9223372036854775807 < T.size + cm.size + 1 + s1.size + 1 := by omega
          have e5 : ¬ 9223372036854775807 < T.size + cm.size + 1 + s1.size + 1 + s2.size := by omega
          have e6 : ¬ 9223372036854775807 < T.size + cm.size + 1 + s1.size + 1 + s2.size + 1 := by omega
          have e7 : ¬ 9223372036854775807 < T.size + cm.size + 1 + s1.size + 1 + s2.size + 1 + s3.size := by omega
          have e8 : ¬ 9223372036854775807 < T.size + cm.size + 1 + s1.size + 1 + s2.size + 1 + s3.size + 1 := by omega
          refine wp_region_quiet_below (by kernel_rfl) (by kernel_rfl) ?_
          have C1 := HC1.out W6
          have C2 := HC2.out W6
          have C3 := HC3.out W6
          have C4 := HC4.out W6
          repeat (quiet_step (first | with_reducible exact C4 _ _ | with_reducible exact C1 _ _ | with_reducible exact C2 _ _ | with_reducible exact C3 _ _))
          refine wpQuiet_nil ?_
          intro _ hw'
          obtain ⟨⟨dq, osq⟩, hw''⟩ := hw'
          subst hw''
          go_wp2_with fail
          refine ⟨⟨k + 1, _, rfl, by first | rfl | simp, by omega, ?_, (out_step hE.out hcm.out hs1.out hs2.out hs3.out).trans (by rw [hstep.out]; simp [outD]), hBW.out.trans ((below_regrown W6 dq osq).mono hBW.out.size)⟩, by simp [intOf]; omega⟩
          simp only [ByteArray.size_append]
          show T.size + cm.size + 1 + s1.size + 1 + s2.size + 1 + s3.size + 1 ≤ _
          omega
        · obtain rfl : n0 = k := by omega
          have d1 : ¬ (n0 : Int) < (n0 : Int) := by omega
          go_wp2_with fail
          go_meet
          have hT9 : T.size ≤ 6442462216 := by omega
          exact ⟨T, rfl, hT9, by have h := hE.out; rw [List.take_of_length_le (by rw [List.length_map, ← hn0.out]; exact Nat.le_refl _)] at h; exact h, HB⟩
  case rest =>
    clear hr0 hT0 hT0s T0
    obtain ⟨T1, rfl, hT1, hE1, HB1⟩ := hcut
    have ea : ¬ 9223372036854775807 < T1.size + 3 := by omega
    go_upto_block 2 with (fail)
    go_cut [3] (fun t3 wx => ∃ T : ByteArray, t3 = .string T ∧ T.size ≤ 2207616357387 ∧ Hid (T = tx ([68, 101, 114, 105, 118, 101, 40, 91] ++ joinC (d.outs.map outD) ++ [93, 44, 91] ++ joinC (d.ins.map inD))) ∧ Hid (Below wb.heap.size wb wx))
    case first =>
      as_aux_lemma =>
        go_wp2_with fail
        go_loopw [3, 6] (fun t3 t6 wr => ∃ (k : Nat) (T : ByteArray), t3 = .string T ∧ t6 = .int .i64 k ∧ k ≤ n1 ∧ T.size ≤ 6442462219 + k * 2149583882 ∧ Hid (T = tx ([68, 101, 114, 105, 118, 101, 40, 91] ++ joinC (d.outs.map outD) ++ [93, 44, 91] ++ joinC ((d.ins.map inD).take k))) ∧ Hid (Below wb.heap.size wb wr)) (fun _ t6 _ => n1 - (intOf t6).toNat)
        case atStart => exact ⟨0, T1 ++ ⟨#[93, 44, 91]⟩, rfl, rfl, Nat.zero_le _, by rw [ByteArray.size_append]; show _ + 3 ≤ _; omega, by rw [Hid, hE1.out, show (⟨#[93, 44, 91]⟩ : ByteArray) = tx [93, 44, 91] from rfl, tx_app]; congr 1; simp [joinC, Lib.join_nil], HB1⟩
        case round =>
          clear HB1 hE1 hT1 ea
          obtain ⟨k, T, rfl, rfl, hk, hT, hE, HB⟩ := hrel
          obtain ⟨f0, f1, f2, f3, f4, f5, f6⟩ := hF.out wr HB.out
          by_cases hlt : k < n1
          · obtain ⟨x, hx⟩ : ∃ x, Hid (d.ins[k]? = some x) := ⟨_, List.getElem?_eq_getElem (by rw [← hn1.out]; exact hlt)⟩
            obtain ⟨g, o, An, cn, eA, q1, q2, q3, q4, q5, q6⟩ := H1.out.ins k x hx.out
            dsimp only at eA
            subst eA
            have r1 := (HB.out.cell (World.block_lt_of_cell? wb _ q1)).trans q1
            have r2 := (HB.out.cell (World.block_lt_of_cell? wb _ q2)).trans q2
            have d1 : (k : Int) < (n1 : Int) := by omega
            have d2 : (0 : Int) ≤ (k : Int) := by omega
            have hxm := List.mem_of_getElem? hx.out
            have hz := HZ.out.si x hxm
            obtain ⟨z, hzz⟩ : ∃ z, Hid (z = x.2.length) := ⟨_, rfl⟩
            obtain ⟨s1, hs1, hs1z, HC1⟩ := quoteQ hz.1
            obtain ⟨s2, hs2, hs2z, HC2⟩ := listQ (c := cn) hzz.out (HS.out.ci x hxm) hz.2 q5
            obtain ⟨cm, hcm, hcmz, HC4⟩ := commaQ k
            have hstep := Lib.hid (joinC_step (d.ins.map inD) k (inD x) (by rw [List.getElem?_map, hx.out]; rfl))
            rw [← hzz.out] at r2 q3
            clear q1 q2 q4 q5 q6 hz f0 f2 f3 f4 f5 f6
            have k0 := cell_regrown r1
            have k1 := cell_regrown r2
            have k2 := cell_regrown f1
            go_upto_region 11 with (fail)
            have e1 : ¬ 9223372036854775807 < T.size + cm.size := by omega
            have e2 : ¬ 9223372036854775807 < T.size + cm.size + 1 := by omega
            have e3 : ¬ 9223372036854775807 < T.size + cm.size + 1 + s1.size := by omega
            have e4 : ¬ 9223372036854775807 < T.size + cm.size + 1 + s1.size + 1 := by omega
            have e5 : ¬ 9223372036854775807 < T.size + cm.size + 1 + s1.size + 1 + s2.size := by omega
            have e6 : ¬ 9223372036854775807 < T.size + cm.size + 1 + s1.size + 1 + s2.size + 1 := by omega
            have C1 := HC1.out wr
            have C2 := HC2.out wr HB.out
            have C4 := HC4.out wr
            refine wp_region_quiet_below (by kernel_rfl) (by kernel_rfl) ?_
            repeat (quiet_step (first | with_reducible exact C4 _ _ | with_reducible exact C1 _ _ | with_reducible exact C2 _ _))
            refine wpQuiet_nil ?_
            intro _ hw'
            obtain ⟨⟨dq, osq⟩, hw''⟩ := hw'
            subst hw''
            go_wp2_with fail
            refine ⟨⟨k + 1, _, rfl, by first | rfl | simp, by omega, ?_, (two_step hE.out hcm.out hs1.out hs2.out).trans (by rw [hstep.out]; simp [inD]), HB.out.trans ((below_regrown wr dq osq).mono HB.out.size)⟩, by simp [intOf]; omega⟩
            simp only [ByteArray.size_append]
            show T.size + cm.size + 1 + s1.size + 1 + s2.size + 1 ≤ _
            omega
          · obtain rfl : n1 = k := by omega
            have d1 : ¬ (n1 : Int) < (n1 : Int) := by omega
            go_wp2_with fail
            go_meet
            have hT9 : T.size ≤ 2207616357387 := by omega
            exact ⟨T, rfl, hT9, by have h := hE.out; rw [List.take_of_length_le (by rw [List.length_map, ← hn1.out]; exact Nat.le_refl _)] at h; exact h, HB⟩
    case rest =>
      clear hT1 hE1 HB1 ea
      obtain ⟨T2, rfl, hT2, hE2, HB2⟩ := hcut
      obtain ⟨f0, f1, f2, f3, f4, f5, f6⟩ := hF.out wc HB2.out
      obtain ⟨s3, hs3, hs3z, HC3⟩ := quoteQ HZ.out.s3
      obtain ⟨s4, hs4, hs4z, HC4⟩ := quoteQ HZ.out.s4
      obtain ⟨l2, hl2, hl2z, HL2⟩ := listQ (c := c2) hn2.out HS.out.c2 HZ.out.ss H1.out.srcs
      obtain ⟨l5, hl5, hl5z, HL5⟩ := listQ (c := c5) hn5.out HS.out.c5 HZ.out.sa H1.out.args
      have e1 : ¬ 9223372036854775807 < T2.size + 2 := by omega
      have e2 : ¬ 9223372036854775807 < T2.size + 2 + l2.size := by omega
      have e3 : ¬ 9223372036854775807 < T2.size + 2 + l2.size + 1 := by omega
      have e4 : ¬ 9223372036854775807 < T2.size + 2 + l2.size + 1 + s3.size := by omega
      have e5 : ¬ 9223372036854775807 < T2.size + 2 + l2.size + 1 + s3.size + 1 := by omega
      have e6 : ¬ 9223372036854775807 < T2.size + 2 + l2.size + 1 + s3.size + 1 + s4.size := by omega
      have e7 : ¬ 9223372036854775807 < T2.size + 2 + l2.size + 1 + s3.size + 1 + s4.size + 1 := by omega
      have e8 : ¬ 9223372036854775807 < T2.size + 2 + l2.size + 1 + s3.size + 1 + s4.size + 1 + l5.size := by omega
      have e9 : ¬ 9223372036854775807 < T2.size + 2 + l2.size + 1 + s3.size + 1 + s4.size + 1 + l5.size + 2 := by omega
      have C2 := HL2.out wc HB2.out
      have C5 := HL5.out wc HB2.out
      have C3 := HC3.out wc
      have C4 := HC4.out wc
      have k2 := cell_regrown f2
      have k3 := cell_regrown f3
      have k4 := cell_regrown f4
      have k5 := cell_regrown f5
      go_upto_region 12 with (fail)
      refine wp_region_quiet_below (by kernel_rfl) (by kernel_rfl) ?_
      repeat (quiet_step (first | with_reducible exact C2 _ _ | with_reducible exact C3 _ _ | with_reducible exact C4 _ _ | with_reducible exact C5 _ _))
      refine wpQuiet_nil ?_
      intro _ hw'
      obtain ⟨⟨dq, osq⟩, hw''⟩ := hw'
      subst hw''
      have HB3 : Hid (Below wb.heap.size wb (grow (redrawn wc dq) osq)) := HB2.out.trans ((below_regrown wc dq osq).mono HB2.out.size)
      have hE3 := Lib.hid (mid_step hE2.out hl2.out hs3.out hs4.out hl5.out)
      have hT3 : (T2 ++ ⟨#[93, 44]⟩ ++ l2 ++ ⟨#[44]⟩ ++ s3 ++ ⟨#[44]⟩ ++ s4 ++ ⟨#[44]⟩ ++ l5 ++ ⟨#[44, 91]⟩ : ByteArray).size ≤ 2211915525146 := by
        simp only [ByteArray.size_append]
        show T2.size + 2 + l2.size + 1 + s3.size + 1 + s4.size + 1 + l5.size + 2 ≤ _
        omega
      clear f0 f1 f2 f3 f4 f5 f6 k2 k3 k4 k5 e1 e2 e3 e4 e5 e6 e7 e8 e9 C2 C3 C4 C5 HC3 HC4 HL2 HL5
      generalize grow (redrawn wc dq) osq = W3 at *
      obtain ⟨T3, hTT⟩ : ∃ T3 : ByteArray, Hid (T2 ++ ⟨#[93, 44]⟩ ++ l2 ++ ⟨#[44]⟩ ++ s3 ++ ⟨#[44]⟩ ++ s4 ++ ⟨#[44]⟩ ++ l5 ++ ⟨#[44, 91]⟩ = T3) := ⟨_, rfl⟩
      rw [hTT.out] at hE3 hT3
      go_wp2_with fail
      go_loopw [3, 7] (fun t3 t7 wr => ∃ (k : Nat) (T : ByteArray), t3 = .string T ∧ t7 = .int .i64 k ∧ k ≤ n6 ∧ T.size ≤ 2211915525146 + k * 4194313 ∧ Hid (T = tx ([68, 101, 114, 105, 118, 101, 40, 91] ++ joinC (d.outs.map outD) ++ [93, 44, 91] ++ joinC (d.ins.map inD) ++ [93, 44] ++ listD d.srcs ++ [44] ++ quoS d.sys ++ [44] ++ quoS d.bld ++ [44] ++ listD d.args ++ [44, 91] ++ joinC ((d.env.map envD).take k))) ∧ Hid (Below wb.heap.size wb wr)) (fun _ t7 _ => n6 - (intOf t7).toNat)
      case atStart => exact ⟨0, T3, by rw [← hTT.out], rfl, Nat.zero_le _, by omega, by rw [Hid, hE3.out]; congr 1; simp [joinC, Lib.join_nil], HB3⟩
      case round =>
        clear HB3 hE3 hT3 hTT hE2 hT2
        obtain ⟨k, T, rfl, rfl, hk, hT, hE, HB⟩ := hrel
        obtain ⟨f0, f1, f2, f3, f4, f5, f6⟩ := hF.out wr HB.out
        by_cases hlt : k < n6
        · obtain ⟨x, hx⟩ : ∃ x, Hid (d.env[k]? = some x) := ⟨_, List.getElem?_eq_getElem (by rw [← hn6.out]; exact hlt)⟩
          obtain ⟨g, o, eA, q1, q2⟩ := H1.out.env k x hx.out
          dsimp only at eA
          subst eA
          have r1 := (HB.out.cell (World.block_lt_of_cell? wb _ q1)).trans q1
          have r2 := (HB.out.cell (World.block_lt_of_cell? wb _ q2)).trans q2
          have d1 : (k : Int) < (n6 : Int) := by omega
          have d2 : (0 : Int) ≤ (k : Int) := by omega
          have hz := HZ.out.se x (List.mem_of_getElem? hx.out)
          obtain ⟨s1, hs1, hs1z, HC1⟩ := quoteQ hz.1
          obtain ⟨s2, hs2, hs2z, HC2⟩ := quoteQ hz.2
          obtain ⟨cm, hcm, hcmz, HC4⟩ := commaQ k
          have hstep := Lib.hid (joinC_step (d.env.map envD) k (envD x) (by rw [List.getElem?_map, hx.out]; rfl))
          clear q1 q2 hz f0 f1 f2 f3 f4 f5
          have k0 := cell_regrown r1
          have k1 := cell_regrown r2
          have k2 := cell_regrown f6
          go_upto_region 16 with (fail)
          have e1 : ¬ 9223372036854775807 < T.size + cm.size := by omega
          have e2 : ¬ 9223372036854775807 < T.size + cm.size + 1 := by omega
          have e3 : ¬ 9223372036854775807 < T.size + cm.size + 1 + s1.size := by omega
          have e4 : ¬ 9223372036854775807 < T.size + cm.size + 1 + s1.size + 1 := by omega
          have e5 : ¬ 9223372036854775807 < T.size + cm.size + 1 + s1.size + 1 + s2.size := by omega
          have e6 : ¬ 9223372036854775807 < T.size + cm.size + 1 + s1.size + 1 + s2.size + 1 := by omega
          have C1 := HC1.out wr
          have C2 := HC2.out wr
          have C4 := HC4.out wr
          refine wp_region_quiet_below (by kernel_rfl) (by kernel_rfl) ?_
          repeat (quiet_step (first | with_reducible exact C4 _ _ | with_reducible exact C1 _ _ | with_reducible exact C2 _ _))
          refine wpQuiet_nil ?_
          intro _ hw'
          obtain ⟨⟨dq, osq⟩, hw''⟩ := hw'
          subst hw''
          go_wp2_with fail
          refine ⟨⟨k + 1, _, rfl, by first | rfl | simp, by omega, ?_, (two_step hE.out hcm.out hs1.out hs2.out).trans (by rw [hstep.out]; simp [envD]), HB.out.trans ((below_regrown wr dq osq).mono HB.out.size)⟩, by simp [intOf]; omega⟩
          simp only [ByteArray.size_append]
          show T.size + cm.size + 1 + s1.size + 1 + s2.size + 1 ≤ _
          omega
        · obtain rfl : n6 = k := by omega
          have d1 : ¬ (n6 : Int) < (n6 : Int) := by omega
          have e1 : ¬ 9223372036854775807 < T.size + 2 := by omega
          go_wp2_with fail
          go_ret
          refine ⟨congrArg (fun x => Ending.returned (.string x)) ?_, hb1.out.trans (HB.out.mono hb1.out.size)⟩
          have h := hE.out
          rw [List.take_of_length_le (by rw [List.length_map, ← hn6.out]; exact Nat.le_refl _)] at h
          rw [h, show (⟨#[93, 41]⟩ : ByteArray) = tx [93, 41] from rfl, tx_app]
          rfl
end Go.Proofs.YtbldognffppeiaaDoor
