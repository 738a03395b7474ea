/- NetFaults, walked. -/
import Derived.Test.YtbldognffppeiaaNetText
namespace Go.Proofs.Ytbldognffppeiaa
open Go.RowKit Go.Maps
set_option linter.unusedSimpArgs false
set_option linter.unusedVariables false
theorem str_list (l : List UInt8) : (⟨l.toArray⟩ : ByteArray).toList = l := ByteArray.toList_eq _
theorem reads_take {w : World} {A : Option Addr} {l : List UInt8} (h : ReadsB w A l) (n : Nat) : ReadsB w A (l.take n) := fun hn => by
  obtain ⟨ad, e, hc⟩ := h (by rw [List.length_take] at hn; omega)
  refine ⟨ad, e, fun j b hj => hc j b ?_⟩
  rw [List.getElem?_take] at hj
  split at hj
  · exact hj
  · cases hj
theorem faults_take {w : World} {A : Option Addr} {zs : List Int} (h : FaultsAt w A zs) (n : Nat) : FaultsAt w A (zs.take n) := fun j z hj => by
  rw [List.getElem?_take] at hj
  split at hj
  · exact h j z hj
  · cases hj
/-- A network of one file. -/
def OneNew (b : List UInt8) (zs : List Int) (w : World) (e : Ending) (w' : World) : Prop := ∃ gn hi, e = .returned (.tuple #[.pointer (some ⟨gn, 0, none⟩), .int .i64 0]) ∧ NetOf w' gn [(nmF, b)] zs 0 w.heap.size hi ∧ hi ≤ w'.heap.size ∧ Below w.heap.size w w'
theorem NetOf.lower {w : World} {gn : Nat} {fs : List (ByteArray × List UInt8)} {zs : List Int} {a lo lo' hi : Nat} (h : NetOf w gn fs zs a lo hi) (hl : lo' ≤ lo) : NetOf w gn fs zs a lo' hi := by
  obtain ⟨gm, B, d, n, D, h1, h2, h3, h4, h5, h6, h7, h8, h9, h10⟩ := h
  refine ⟨gm, B, d, n, D, h1, h2, h3, by omega, h5, by omega, h7, h8, fun ad e => by have := h9 ad e; omega, fun nm => ?_⟩
  have h := h10 nm
  cases hl : lookF fs nm with
  | none => rw [hl] at h; exact h
  | some l =>
    rw [hl] at h
    obtain ⟨a1, gf, c, a2, a3, a4, a5, a6, a7, a8⟩ := h
    exact ⟨a1, gf, c, a2, a3, a4, a5, by omega, a7, a8⟩
theorem one_new {b : List UInt8} {zs : List Int} {w W w' : World} {e : Ending} (hb : b.length ≤ 1048576) (hw : Below w.heap.size w W) (h : NewSays W [(nmF, b)] zs e w' ∧ Below W.heap.size W w') : OneNew b zs w e w' := by
  obtain ⟨h | h | h, hb2⟩ := h
  · obtain ⟨h | h, _⟩ := h
    · simp at h
    · rw [anyBig_one nmF b hb] at h; cases h
  · exact absurd h.2.2.1 (dup_one _)
  · obtain ⟨_, _, _, gn, rfl, hN⟩ := h
    exact ⟨gn, _, rfl, hN.lower hw.size, Nat.le_refl _, below_step' hw hb2⟩
def oneV (code : Int) (b : List UInt8) : List UInt8 × Int := if code = 1 then ([], 45) else if code = 4 then ([], 14) else (wholeV code b, 0)
theorem NetOf.bounds {w : World} {gn : Nat} {fs : List (ByteArray × List UInt8)} {zs : List Int} {a lo hi : Nat} (h : NetOf w gn fs zs a lo hi) : lo ≤ gn ∧ gn < hi := by
  obtain ⟨gm, B, d, n, D, h1, h2, h3, h4, h5, _⟩ := h
  exact ⟨h4, h5⟩
theorem grown_below {w w' : World} {gn lo : Nat} (h : w.grownBy w' (some gn)) (hl : lo ≤ gn) (hw : lo ≤ w.heap.size) : Below lo w w' :=
  ⟨h.os, h.tape, h.output, h.size, fun k hk => h.block k (by omega) (fun e => by injection e with e; omega)⟩
theorem ownB_reads {w w' : World} {A : Option Addr} {l : List UInt8} (h : OwnB w w' A l) : ReadsB w' A l := by
  rcases h with ⟨rfl, rfl⟩ | ⟨gx, _, rfl, hb⟩
  · exact ReadsB.nil _ _
  · exact hb.reads
theorem get_one (gn : Nat) (b : List UInt8) (zs : List Int) (i lo hi : Nat) (hb : b.length ≤ 200) (hz : zs.length ≤ 1048576) (hi1 : i ≤ 1048576) (w : World) (hN : NetOf w gn [(nmF, b)] zs i lo hi) (hh : hi ≤ w.heap.size) :
    Calls Try.prog 8 #[.pointer (some ⟨gn, 0, none⟩), .string ⟨#[102]⟩, .int .i64 0, .int .i64 1000] w fun e w' =>
      ∃ A, e = .returned (.tuple #[.slice A (oneV (codeAt zs i) b).1.length (oneV (codeAt zs i) b).1.length, .int .i64 (oneV (codeAt zs i) b).2]) ∧ ReadsB w' A (oneV (codeAt zs i) b).1 ∧ NetOf w' gn [(nmF, b)] zs (i + 1) lo hi ∧ hi ≤ w'.heap.size ∧ Below lo w w' := by
  have h := get_net gn [(nmF, b)] zs i lo hi (by omega) hi1 nmF (by unfold nmF maxLen; decide) 0 1000 (by omega) (by omega) (by omega) w hN hh
  have e : getV [(nmF, b)] (codeAt zs i) nmF 0 1000 = oneV (codeAt zs i) b := by
    unfold oneV
    by_cases h1 : codeAt zs i = 1
    · unfold getV
      rw [if_pos h1, if_pos h1]
    · by_cases h4 : codeAt zs i = 4
      · unfold getV
        rw [if_neg h1, if_neg h1, if_pos h4, if_pos h4]
      · rw [getV_one _ b hb h1 h4, if_neg h1, if_neg h4]
  rw [e] at h
  refine Calls.mono h ?_
  rintro e w' ⟨A, rfl, h1, h2, h3⟩
  have hbd := hN.bounds
  exact ⟨A, rfl, ownB_reads h1, h3, Nat.le_trans hh h2.size, grown_below h2 hbd.1 (by omega)⟩
set_option maxHeartbeats 4000000 in
set_option maxRecDepth 100000 in
theorem faults_any (A : Option Addr) (b : List UInt8) (c : Nat) (hc : b.length ≤ c) (hcm : c ≤ maxLen) (A2 : Option Addr) (zs : List Int) (c2 : Nat) (hc2 : zs.length ≤ c2) (hcm2 : c2 ≤ maxLen) (hA2 : A2 = none → zs.length = 0 ∧ c2 = 0)
    (w : World) (hr : ReadsB w A b) (hf : FaultsAt w A2 zs) :
    Calls Try.prog 4 #[.slice A b.length c, .slice A2 zs.length c2] w fun e w' => e = .returned (.bool true) ∧ Below w.heap.size w w' := by
  obtain ⟨b', hb'⟩ : ∃ b', Hid (b' = b.take 200) := ⟨_, rfl⟩
  obtain ⟨zs', hzs'⟩ : ∃ zs', Hid (zs' = zs.take 100) := ⟨_, rfl⟩
  obtain ⟨n, hn⟩ : ∃ n, Hid (n = b.length) := ⟨_, rfl⟩
  obtain ⟨m, hm⟩ : ∃ m, Hid (m = zs.length) := ⟨_, rfl⟩
  have HR : Hid (ReadsB w A b') := by rw [hb'.out]; exact reads_take hr 200
  have HF : Hid (FaultsAt w A2 zs') := by rw [hzs'.out]; exact faults_take hf 100
  have hbl : b'.length = min 200 n := by rw [hb'.out, List.length_take, hn.out]
  have hzl : zs'.length = min 100 m := by rw [hzs'.out, List.length_take, hm.out]
  have hAz : Hid (A2 = none → zs'.length = 0) := fun h => by rw [hzl, hm.out, (hA2 h).1]; rfl
  have hAz2 : Hid (A2 = none → c2 = 0) := fun h => (hA2 h).2
  have hHA : 100 < m → ∃ ad, A2 = some ad := fun h => by
    cases A2 with
    | none => have := (hA2 rfl).1; have := hm.out; omega
    | some ad => exact ⟨ad, rfl⟩
  have hHB : 200 < n → ∃ ad, A = some ad := fun h => by
    obtain ⟨ad, e, _⟩ := hr (by have := hn.out; omega)
    exact ⟨ad, e⟩
  rw [← hn.out, ← hm.out]
  rw [← hn.out] at hc
  rw [← hm.out] at hc2
  unfold maxLen at hcm hcm2
  have HHB := Lib.hid hHB
  have HHA := Lib.hid hHA
  have hbl1 : Hid (200 < n → b'.length = 200) := fun _ => by omega
  have hbl2 : Hid (n ≤ 200 → b'.length = n) := fun _ => by omega
  have hzl1 : Hid (100 < m → zs'.length = 100) := fun _ => by omega
  have hzl2 : Hid (m ≤ 100 → zs'.length = m) := fun _ => by omega
  have hbl3 : b'.length ≤ 200 := by omega
  have hzl3 : zs'.length ≤ 100 := by omega
  clear hr hf hA2 hHA hHB hbl hzl hn hm hb' hzs'
  go_enter Try.func4, Try.ntmps4
  go_upto_if 13 with (fail)
  go_cut [0] (fun t0 wx => wx = w ∧ ∃ c', t0 = .slice A b'.length c' ∧ b'.length ≤ c' ∧ c' ≤ 9223372036854775807)
  case first =>
    by_cases h1 : 200 < n
    · have c1 : (200 : Int) < (n : Int) := by omega
      obtain ⟨ad, rfl⟩ := HHB.out h1
      go_wp2_with fail
      all_goals go_meet
      all_goals exact ⟨rfl, _, by rw [hbl1.out h1], by first | omega | (rw [hbl1.out h1]; omega), by omega⟩
    · have c1 : ¬ (200 : Int) < (n : Int) := by omega
      go_wp2_with fail
      go_meet
      exact ⟨rfl, _, by rw [hbl2.out (by omega)], by rw [hbl2.out (by omega)]; exact hc, by omega⟩
  case rest =>
    obtain ⟨rfl, c', rfl, hc', hcm'⟩ := hcut
    go_upto_if 18 with (fail)
    go_cut [1] (fun t1 wx => wx = wc ∧ ∃ c', t1 = .slice A2 zs'.length c' ∧ zs'.length ≤ c' ∧ c' ≤ 9223372036854775807 ∧ Hid (A2 = none → c' = 0))
    case first =>
      by_cases h1 : 100 < m
      · have c1 : (100 : Int) < (m : Int) := by omega
        obtain ⟨ad, rfl⟩ := HHA.out h1
        go_wp2_with fail
        all_goals go_meet
        all_goals exact ⟨rfl, _, by rw [hzl1.out h1], by first | omega | (rw [hzl1.out h1]; omega), by omega, fun h => by cases h⟩
      · have c1 : ¬ (100 : Int) < (m : Int) := by omega
        go_wp2_with fail
        go_meet
        exact ⟨rfl, _, by rw [hzl2.out (by omega)], by rw [hzl2.out (by omega)]; exact hc2, by omega, hAz2⟩
    case rest =>
      obtain ⟨rfl, c2', rfl, hc2', hcm2', hAz3⟩ := hcut
      clear hbl1 hbl2 hzl1 hzl2 HHA HHB hAz2
      obtain ⟨k, hk⟩ : ∃ k, Hid (k = b'.length) := ⟨_, rfl⟩
      obtain ⟨j, hj⟩ : ∃ j, Hid (j = zs'.length) := ⟨_, rfl⟩
      rw [← hk.out] at hc' hbl3 ⊢
      rw [← hj.out] at hc2' hzl3 ⊢
      go_upto_region 5 with (fail)
      have HB1 := Lib.hid (Blk.new wc 41 #[.string nmF, .slice A k c'])
      have HW1 := Lib.hid ((Below.refl wc.heap.size wc).alloc (Nat.le_refl _) (.cells #[.string nmF, .slice A k c'] 41))
      have HR1 := Lib.hid (HR.out.below HW1.out)
      have HF1 := Lib.hid (HF.out.below HW1.out)
      have HNEW : Hid (Calls Try.prog 10 #[.slice (some ⟨wc.heap.size, 0, none⟩) 1 1, .slice A2 j c2'] (wc.alloc (.cells #[.string nmF, .slice A k c'] 41)) fun e w' => OneNew b' zs' wc e w') := by
        have h := new_net (some ⟨wc.heap.size, 0, none⟩) [(nmF, b')] 1 (by unfold maxLen; simp) A2 zs' c2' (by rw [← hj.out]; omega) (fun h => ⟨hAz.out h, hAz3.out h⟩) (wc.alloc (.cells #[.string nmF, .slice A k c'] 41))
          (files_one (c := c') (HB1.out.cell 0) (by rw [← hk.out]; exact HB1.out.cell 1) (by rw [← hk.out]; exact hc') (by unfold maxLen; omega) HR1.out) HF1.out
        rw [← hj.out] at h
        exact h.mono fun e w' h => one_new (by rw [← hk.out]; omega) HW1.out h
      clear HB1 HW1 HF1 HR1
      go_upto_region 6 with (first | (go_at_call 10; refine HNEW.out.mono ?_; rintro e w2 ⟨gn, hi, rfl, hN, hhi, hb2⟩; have HNT := Lib.hid hN; have HHI := Lib.hid hhi; have HB2 := Lib.hid hb2; clear hN hhi hb2) | fail)
      clear HNEW
      go_wp2_with fail
      go_loopw [7] (fun t7 wr => ∃ i : Nat, t7 = .int .i64 i ∧ i ≤ j ∧ Hid (NetOf wr gn [(nmF, b')] zs' i wc.heap.size hi) ∧ Hid (hi ≤ wr.heap.size) ∧ Hid (Below wc.heap.size wc wr)) (fun t7 _ => j - (intOf t7).toNat)
      case atStart => exact ⟨0, rfl, by omega, HNT, HHI, HB2⟩
      case round =>
        clear HNT HHI HB2
        obtain ⟨i, rfl, hi1, HNT, HHI, HB2⟩ := hrel
        have HG := Lib.hid (get_one gn b' zs' i wc.heap.size hi (by rw [← hk.out]; exact hbl3) (by rw [← hj.out]; omega) (by omega) wr HNT.out HHI.out)

        by_cases hlt : i < j
        · obtain ⟨z, hz⟩ : ∃ z, Hid (zs'[i]? = some z) := ⟨_, List.getElem?_eq_getElem (by have := hj.out; omega)⟩
          obtain ⟨ad, rfl, hcell⟩ := HF.out i z hz.out
          have hcode : codeAt zs' i = z := by unfold codeAt; rw [List.getD_eq_getElem?_getD, hz.out]; rfl
          rw [hcode] at HG
          have d1 : (i : Int) < (j : Int) := by omega
          have d2 : (0 : Int) ≤ (i : Int) := by omega
          clear hcode hz
          by_cases z1 : z = 1
          · subst z1
            have hx : oneV 1 b' = ([], 45) := rfl
            rw [hx] at HG
            clear hx
            go_upto_region 12 with (first | (go_at_call 8; refine HG.out.mono ?_; rintro e w3 ⟨A3, rfl, h3, hN, hhi, hb3⟩; have HR3 := Lib.hid h3; have HNT3 := Lib.hid hN; have HHI3 := Lib.hid hhi; have HB3 := Lib.hid hb3; clear h3 hN hhi hb3) | fail)
            have hc3 : w3.cell? (ad.add i) = some (.int .i64 1) := ((HB2.out.trans HB3.out).cell (World.block_lt_of_cell? wc _ hcell)).trans hcell
            clear HG
            go_wp2_with fail
            refine ⟨⟨i + 1, by first | rfl | simp, by omega, HNT3, HHI3, HB2.out.trans HB3.out⟩, by simp [intOf]; omega⟩
          by_cases z4 : z = 4
          · subst z4
            have hx : oneV 4 b' = ([], 14) := rfl
            rw [hx] at HG
            clear hx
            go_upto_region 12 with (first | (go_at_call 8; refine HG.out.mono ?_; rintro e w3 ⟨A3, rfl, h3, hN, hhi, hb3⟩; have HR3 := Lib.hid h3; have HNT3 := Lib.hid hN; have HHI3 := Lib.hid hhi; have HB3 := Lib.hid hb3; clear h3 hN hhi hb3) | fail)
            have hc3 : w3.cell? (ad.add i) = some (.int .i64 4) := ((HB2.out.trans HB3.out).cell (World.block_lt_of_cell? wc _ hcell)).trans hcell
            clear HG
            go_wp2_with fail
            refine ⟨⟨i + 1, by first | rfl | simp, by omega, HNT3, HHI3, HB2.out.trans HB3.out⟩, by simp [intOf]; omega⟩
          by_cases z2 : z = 2
          · subst z2
            obtain ⟨X, hX⟩ : ∃ X, Hid (X = b'.take (k / 2)) := ⟨_, rfl⟩
            have hXl : Hid (X.length = k / 2) := by rw [Hid, hX.out, List.length_take, ← hk.out]; omega
            have hx : oneV 2 b' = (X, 0) := by rw [hX.out, hk.out]; rfl
            rw [hx] at HG
            simp only [hXl.out] at HG
            clear hx
            go_upto_region 12 with (first | (go_at_call 8; refine HG.out.mono ?_; rintro e w3 ⟨A3, rfl, h3, hN, hhi, hb3⟩; have HR3 := Lib.hid h3; have HNT3 := Lib.hid hN; have HHI3 := Lib.hid hhi; have HB3 := Lib.hid hb3; clear h3 hN hhi hb3) | fail)
            have hc3 : w3.cell? (ad.add i) = some (.int .i64 2) := ((HB2.out.trans HB3.out).cell (World.block_lt_of_cell? wc _ hcell)).trans hcell
            clear HG
            obtain ⟨sx, hsx⟩ : ∃ sx : ByteArray, sx = ⟨X.toArray⟩ := ⟨_, rfl⟩
            have hcv1 : ∀ n, (convert 33 9 (.slice A3 (k / 2) (k / 2))).run Try.prog (w3.drewN n) = .ok (.string sx) (w3.drewN n) := fun n => by
              have h := text_of_B (P := Try.prog) (w := w3.drewN n) (c := k / 2) Try.underlying33 Try.underlying5 Try.underlying9 HR3.out
              rw [hXl.out] at h
              rw [hsx]
              exact h
            have hcv2 : ∀ n, (convert 33 9 (.slice A (k / 2) c')).run Try.prog (w3.drewN n) = .ok (.string sx) (w3.drewN n) := fun n => by
              have h := text_of_B (P := Try.prog) (w := w3.drewN n) (c := c') Try.underlying33 Try.underlying5 Try.underlying9 (l := X) (by rw [hX.out]; exact reads_take (HR.out.below (HB2.out.trans HB3.out)) _)
              rw [hXl.out] at h
              rw [hsx]
              exact h
            clear hsx
            go_upto_region 22 with (fail)
            go_quiet (fail)
            go_wp2_with fail
            refine ⟨⟨i + 1, by first | rfl | simp, by omega, Lib.hid (HNT3.out.kept (fun _ _ _ => rfl)), HHI3, below_drewN' (HB2.out.trans HB3.out) nq⟩, by simp [intOf]; omega⟩
          by_cases z3 : z = 3
          · subst z3
            obtain ⟨X, hX⟩ : ∃ X, Hid (X = wholeV 3 b') := ⟨_, rfl⟩
            have hXl : Hid (X.length = k) := by rw [Hid, hX.out, wholeV_length, if_neg (by decide), hk.out]
            have hx : oneV 3 b' = (X, 0) := by rw [hX.out]; rfl
            rw [hx] at HG
            simp only [hXl.out] at HG
            clear hx
            go_upto_region 12 with (first | (go_at_call 8; refine HG.out.mono ?_; rintro e w3 ⟨A3, rfl, h3, hN, hhi, hb3⟩; have HR3 := Lib.hid h3; have HNT3 := Lib.hid hN; have HHI3 := Lib.hid hhi; have HB3 := Lib.hid hb3; clear h3 hN hhi hb3) | fail)
            have hc3 : w3.cell? (ad.add i) = some (.int .i64 3) := ((HB2.out.trans HB3.out).cell (World.block_lt_of_cell? wc _ hcell)).trans hcell
            clear HG
            by_cases hk0 : k = 0
            · subst hk0
              go_wp2_with fail
              refine ⟨⟨i + 1, by first | rfl | simp, by omega, HNT3, HHI3, HB2.out.trans HB3.out⟩, by simp [intOf]; omega⟩
            · have hk1 : (0 : Int) < (k : Int) := by omega
              obtain ⟨sx, hsx⟩ : ∃ sx : ByteArray, sx = ⟨X.toArray⟩ := ⟨_, rfl⟩
              obtain ⟨sb, hsb⟩ : ∃ sb : ByteArray, sb = ⟨b'.toArray⟩ := ⟨_, rfl⟩
              have hcv1 : (convert 33 9 (.slice A3 k k)).run Try.prog w3 = .ok (.string sx) w3 := by
                have h := text_of_B (P := Try.prog) (w := w3) (c := k) Try.underlying33 Try.underlying5 Try.underlying9 HR3.out
                rw [hXl.out] at h
                rw [hsx]
                exact h
              have hcv2 : (convert 33 9 (.slice A k c')).run Try.prog w3 = .ok (.string sb) w3 := by
                have h := text_of_B (P := Try.prog) (w := w3) (c := c') Try.underlying33 Try.underlying5 Try.underlying9 (HR.out.below (HB2.out.trans HB3.out))
                rw [← hk.out] at h
                rw [hsb]
                exact h
              have hne : (sx.toList == sb.toList) = false := by
                rw [hsx, hsb, str_list, str_list, hX.out]
                simpa using whole_unlike b' (by have := hk.out; omega)
              clear hsx hsb hk0
              go_wp2_with fail
              refine ⟨⟨i + 1, by first | rfl | simp, by omega, HNT3, HHI3, HB2.out.trans HB3.out⟩, by simp [intOf]; omega⟩
          · have e1 : (z == 1) = false := by simpa using z1
            have e2 : (z == 2) = false := by simpa using z2
            have e3 : (z == 3) = false := by simpa using z3
            have e4 : (z == 4) = false := by simpa using z4
            have hx : oneV z b' = (b', 0) := by
              unfold oneV wholeV
              rw [if_neg z1, if_neg z4, if_neg z2, if_neg (fun h => z3 h.1)]
            rw [hx] at HG
            simp only [← hk.out] at HG
            clear hx z1 z2 z3 z4
            go_upto_region 12 with (first | (go_at_call 8; refine HG.out.mono ?_; rintro e w3 ⟨A3, rfl, h3, hN, hhi, hb3⟩; have HR3 := Lib.hid h3; have HNT3 := Lib.hid hN; have HHI3 := Lib.hid hhi; have HB3 := Lib.hid hb3; clear h3 hN hhi hb3) | fail)
            have hc3 : w3.cell? (ad.add i) = some (.int .i64 z) := ((HB2.out.trans HB3.out).cell (World.block_lt_of_cell? wc _ hcell)).trans hcell
            clear HG
            obtain ⟨sb, hsb⟩ : ∃ sb : ByteArray, sb = ⟨b'.toArray⟩ := ⟨_, rfl⟩
            have hcv1 : (convert 33 9 (.slice A3 k k)).run Try.prog w3 = .ok (.string sb) w3 := by
              have h := text_of_B (P := Try.prog) (w := w3) (c := k) Try.underlying33 Try.underlying5 Try.underlying9 HR3.out
              rw [← hk.out] at h
              rw [hsb]
              exact h
            have hcv2 : (convert 33 9 (.slice A k c')).run Try.prog w3 = .ok (.string sb) w3 := by
              have h := text_of_B (P := Try.prog) (w := w3) (c := c') Try.underlying33 Try.underlying5 Try.underlying9 (HR.out.below (HB2.out.trans HB3.out))
              rw [← hk.out] at h
              rw [hsb]
              exact h
            clear hsb
            go_wp2_with fail
            refine ⟨⟨i + 1, by first | rfl | simp, by omega, HNT3, HHI3, HB2.out.trans HB3.out⟩, by simp [intOf]; omega⟩
        · obtain rfl : i = j := by omega
          have hcode : codeAt zs' i = 0 := by unfold codeAt; rw [List.getD_eq_getElem?_getD, List.getElem?_eq_none (by have := hj.out; omega)]; rfl
          have hx : oneV 0 b' = (b', 0) := rfl
          rw [hcode, hx] at HG
          simp only [← hk.out] at HG
          have d1 : ¬ (i : Int) < (i : Int) := by omega
          clear hcode hx
          go_upto_region 28 with (first | (go_at_call 8; refine HG.out.mono ?_; rintro e w3 ⟨A3, rfl, h3, hN, hhi, hb3⟩; have HR3 := Lib.hid h3; have HNT3 := Lib.hid hN; have HHI3 := Lib.hid hhi; have HB3 := Lib.hid hb3; clear h3 hN hhi hb3) | fail)
          obtain ⟨sb, hsb⟩ : ∃ sb : ByteArray, sb = ⟨b'.toArray⟩ := ⟨_, rfl⟩
          have hcv1 : (convert 33 9 (.slice A3 k k)).run Try.prog w3 = .ok (.string sb) w3 := by
            have h := text_of_B (P := Try.prog) (w := w3) (c := k) Try.underlying33 Try.underlying5 Try.underlying9 HR3.out
            rw [← hk.out] at h
            rw [hsb]
            exact h
          have hcv2 : (convert 33 9 (.slice A k c')).run Try.prog w3 = .ok (.string sb) w3 := by
            have h := text_of_B (P := Try.prog) (w := w3) (c := c') Try.underlying33 Try.underlying5 Try.underlying9 (HR.out.below (HB2.out.trans HB3.out))
            rw [← hk.out] at h
            rw [hsb]
            exact h
          clear hsb HG
          have HAS := Lib.hid (asked_net gn [(nmF, b')] zs' (i + 1) wc.heap.size hi w3 HNT3.out)
          go_wp2_with (first | (go_at_call 9; refine HAS.out.mono ?_; rintro e w4 ⟨rfl, rfl⟩) | fail)
          go_ret
          exact ⟨by simp, HB2.out.trans HB3.out⟩
end Go.Proofs.Ytbldognffppeiaa
