/- The reader's quoted, walked. -/
import Derived.Test.YtbldognffppeiaaDoorAtTake
import Derived.WalkMore
import Derived.Test.YtbldognffppeiaaDoorHeldM
namespace Go.Proofs.YtbldognffppeiaaDoor
open Go.RowKit Quo
set_option linter.unusedSimpArgs false
set_option linter.unusedVariables false
theorem signs_at (c : UInt8) (W : World) (hT : Tabs W) :
    Calls Tryd.prog 20 #[.slice (some ⟨1, 0, none⟩) 5 5, .int .u8 (c.toNat : Int)] W fun e w' => e = .returned (.int .i64 (ix signsL c)) ∧ w' = W := by
  refine index8 (some ⟨1, 0, none⟩) signsL 5 c W (fun _ => ⟨⟨1, 0, none⟩, rfl, fun j b hj => ?_⟩) (by decide)
  have hj5 : j < 5 := by
    rcases Nat.lt_or_ge j 5 with h1 | h1
    · exact h1
    · rw [List.getElem?_eq_none h1] at hj; cases hj
  rw [List.getElem?_eq_getElem hj5] at hj
  have e : (⟨1, 0, none⟩ : Addr).add j = ⟨1, j, none⟩ := by unfold Addr.add; split <;> simp_all
  rw [e, hT.2 j hj5]
  injection hj with hj
  rw [hj]
/-- What a reader has left: none, or so many bytes. -/
def lenR (st : Option (List UInt8)) : Nat := match st with | none => 0 | some l => l.length + 1
def mRd (w : World) (g : Nat) : Nat := match w.cell? ⟨g, 0, none⟩, w.cell? ⟨g, 1, none⟩ with | some (.string s), some .nilIface => s.size + 1 | _, _ => 0
theorem RdSt.measure {w : World} {g : Nat} {st : Option (List UInt8)} (h : RdSt w g st) : mRd w g = lenR st := by
  cases st with
  | none =>
    obtain ⟨s, n, h⟩ := h
    have p0 := h.cell 0
    have p1 := h.cell 1
    unfold mRd
    rw [p0, p1]
    rfl
  | some l =>
    have p0 := Blk.cell h 0
    have p1 := Blk.cell h 1
    unfold mRd
    rw [p0, p1]
    show (tx l).size + 1 = _
    rw [tx_size]
    rfl
theorem isBuilder_set {B b : Nat} {bs : List Value} {w : World} (h : Lib.IsBuilder 53 5 B b bs w) {p : Addr} (hp : p.block < B) (u : Value) : Lib.IsBuilder 53 5 B b bs (w.setCell p u) := by
  have h1 : ∀ q, Lib.BuilderAt 53 5 B b q bs w → Lib.BuilderAt 53 5 B b q bs (w.setCell p u) := fun q ⟨hB, v, hb, ho, hne⟩ => ⟨hB, v, (Below.heap_setCell w p u b (by omega)).trans hb, own_set ho hp u, hne⟩
  exact h.elim (fun h => .inl (h1 _ h)) (fun h => .inr (h1 _ h))
theorem isBuilder_kept {B b g : Nat} {bs : List Value} {w w' : World} (h : Lib.IsBuilder 53 5 B b bs w) (hg : g < B) (hk : Kept g w w') : Lib.IsBuilder 53 5 B b bs w' := by
  have h1 : ∀ q, Lib.BuilderAt 53 5 B b q bs w → Lib.BuilderAt 53 5 B b q bs w' := fun q h => by
    have hlt := h.lt
    obtain ⟨hB, v, hb, ho, hne⟩ := h
    exact ⟨hB, v, (hk.block b hlt (fun e => by injection e; omega)).trans hb, own_keptK ho hg hk, hne⟩
  exact h.elim (fun h => .inl (h1 _ h)) (fun h => .inr (h1 _ h))
theorem sign_case (e : UInt8) : (unsign e = none ∧ ix signsL e = -1) ∨ ∃ (m : Nat) (h : m < 5), ix signsL e = (m : Int) ∧ unsign e = some (plainL[m]'h) := by
  by_cases h1 : e = 34
  · subst h1; exact .inr ⟨0, by decide, by decide, rfl⟩
  by_cases h2 : e = 92
  · subst h2; exact .inr ⟨1, by decide, by decide, rfl⟩
  by_cases h3 : e = 110
  · subst h3; exact .inr ⟨2, by decide, by decide, rfl⟩
  by_cases h4 : e = 114
  · subst h4; exact .inr ⟨3, by decide, by decide, rfl⟩
  by_cases h5 : e = 116
  · subst h5; exact .inr ⟨4, by decide, by decide, rfl⟩
  refine .inl ⟨?_, ?_⟩
  · unfold unsign
    rw [if_neg h1, if_neg h2, if_neg h3, if_neg h4, if_neg h5]
  · have : e ∉ signsL := by simp [signsL, h1, h2, h3, h4, h5]
    unfold ix
    rw [List.idxOf_eq_length this]
    decide
theorem plain_case (c : UInt8) (h1 : c ≠ 34) (h2 : c ≠ 92) : ((c = 10 ∨ c = 13 ∨ c = 9) ∧ 0 ≤ ix plainL c) ∨ (¬ (c = 10 ∨ c = 13 ∨ c = 9) ∧ ix plainL c = -1) := by
  by_cases h3 : c = 10
  · subst h3; exact .inl ⟨by decide, by decide⟩
  by_cases h4 : c = 13
  · subst h4; exact .inl ⟨by decide, by decide⟩
  by_cases h5 : c = 9
  · subst h5; exact .inl ⟨by decide, by decide⟩
  refine .inr ⟨by simp [h3, h4, h5], ?_⟩
  have : c ∉ plainL := by simp [plainL, h1, h2, h3, h4, h5]
  unfold ix
  rw [List.idxOf_eq_length this]
  decide
theorem u8_int {c d : UInt8} {n : Int} (hd : (d.toNat : Int) = n) (h : c ≠ d) : ¬ (c.toNat : Int) = n := fun e => h (UInt8.toNat_inj.1 (by omega))
theorem tabs_kept {w w' : World} {g : Nat} (h : Tabs w) (hg : 1 < g) (hk : Kept g w w') : Tabs w' := Tabs.unwipe ((h.wipe hg).below hk.wipe')
theorem rdB_34 (t : List UInt8) : rdB (34 :: t) = some ([], t) := by cases t <;> rfl
theorem rdB_sign (e : UInt8) (t : List UInt8) : rdB (92 :: e :: t) = (unsign e).bind fun v => (rdB t).map fun p => (v :: p.1, p.2) := rfl
theorem rdB_ctl (c : UInt8) (t : List UInt8) (h1 : c ≠ 34) (h2 : c ≠ 92) (h3 : c = 10 ∨ c = 13 ∨ c = 9) : rdB (c :: t) = none := by
  cases t with
  | nil => unfold rdB; rw [if_neg h1]
  | cons e t => unfold rdB; rw [if_neg h1, if_neg h2, if_pos h3]
theorem rdB_plain (c : UInt8) (t : List UInt8) (h1 : c ≠ 34) (h2 : c ≠ 92) (h3 : ¬ (c = 10 ∨ c = 13 ∨ c = 9)) : rdB (c :: t) = (rdB t).map fun p => (c :: p.1, p.2) := by
  cases t with
  | nil => unfold rdB; rw [if_neg h1]; rfl
  | cons e t => show rdB (c :: e :: t) = (rdB (e :: t)).map _; rw [rdB.eq_3, if_neg h1, if_neg h2, if_neg h3]
/-- The loop's state. -/
structure QInv (w : World) (g b : Nat) (R : Option (List UInt8 × List UInt8)) (acc : List UInt8) (sr : Option (List UInt8)) (W : World) : Prop where
  rd : RdSt W g sr
  bd : Lib.IsBuilder 53 5 b b (Lib.byteCells acc) W
  kept : Kept g w W
  size : b ≤ W.heap.size
  fit : ∀ l, sr = some l → acc.length + l.length ≤ 1048576
  said : R = (sr.bind rdB).map fun p => (acc ++ p.1, p.2)
theorem QInv.bad {w : World} {g b : Nat} {R : Option (List UInt8 × List UInt8)} {acc : List UInt8} {W : World} {Y : Option (List UInt8 × List UInt8)} {acc0 : List UInt8} (hrd : RdSt W g none) (hbd : Lib.IsBuilder 53 5 b b (Lib.byteCells acc) W) (hk : Kept g w W) (hs : b ≤ W.heap.size) (hR : R = Y.map fun p => (acc0 ++ p.1, p.2)) (hY : Y = none) : QInv w g b R acc none W := ⟨hrd, hbd, hk, hs, (fun l e => by cases e), by rw [hR, hY]; rfl⟩
theorem QInv.good {w : World} {g b : Nat} {R : Option (List UInt8 × List UInt8)} {acc : List UInt8} {W : World} {Y : Option (List UInt8 × List UInt8)} {t : List UInt8} {x : UInt8} (hrd : RdSt W g (some t)) (hbd : Lib.IsBuilder 53 5 b b (Lib.byteCells (acc ++ [x])) W) (hk : Kept g w W) (hs : b ≤ W.heap.size) (hf : acc.length + (t.length + 1) ≤ 1048576) (hR : R = Y.map fun p => (acc ++ p.1, p.2)) (hY : Y = (rdB t).map fun p => (x :: p.1, p.2)) : QInv w g b R (acc ++ [x]) (some t) W := ⟨hrd, hbd, hk, hs, (fun l e => by injection e with e; subst e; rw [List.length_append]; simp only [List.length_cons, List.length_nil]; omega), by
  rw [hR, hY]
  show _ = (rdB t).map _
  cases rdB t with
  | none => rfl
  | some p => simp⟩
theorem QInv.less {w W wr : World} {g b : Nat} {R : Option (List UInt8 × List UInt8)} {acc : List UInt8} {sr : Option (List UInt8)} {n : Nat} (h : QInv w g b R acc sr W) (hm : mRd wr g = n) (hl : lenR sr < n) : mRd W g < mRd wr g := by rw [hm, h.rd.measure]; exact hl
theorem q_none {st : Option (List UInt8)} {R : Option (List UInt8 × List UInt8)} {W w : World} {g : Nat} (hR1 : st.bind rdS = Option.map (fun p => (tx p.1, p.2)) R) (hR : R = none) (h : RdSt W g none) (hk : Kept g w W) : ∃ q, Ending.returned (.string ⟨#[]⟩) = .returned (.string q) ∧ RdSt W g ((st.bind rdS).map (·.2)) ∧ (∀ p, st.bind rdS = some p → q = p.1) ∧ Kept g w W := by
  rw [hR1, hR]
  exact ⟨_, rfl, h, (fun p e => by cases e), hk⟩
theorem q_some {st : Option (List UInt8)} {R : Option (List UInt8 × List UInt8)} {W w : World} {g : Nat} {x r : List UInt8} (hR1 : st.bind rdS = Option.map (fun p => (tx p.1, p.2)) R) (hR : R = some (x, r)) (h : RdSt W g (some r)) (hk : Kept g w W) : ∃ q, Ending.returned (.string ⟨x.toArray⟩) = .returned (.string q) ∧ RdSt W g ((st.bind rdS).map (·.2)) ∧ (∀ p, st.bind rdS = some p → q = p.1) ∧ Kept g w W := by
  rw [hR1, hR]
  exact ⟨_, rfl, h, (fun p e => by injection e with e; rw [← e]; rfl), hk⟩
set_option maxHeartbeats 4000000 in
set_option maxRecDepth 1000000 in
theorem quoted_any (g : Nat) (st : Option (List UInt8)) (w : World) (hg : 1 < g) (hT : Tabs w) (hl : ∀ l, st = some l → l.length ≤ 1048576) (h : RdSt w g st) : Calls Tryd.prog 63 #[.pointer (some ⟨g, 0, none⟩)] w fun e w' => ∃ q, e = .returned (.string q) ∧ RdSt w' g ((st.bind rdS).map (·.2)) ∧ (∀ p, st.bind rdS = some p → q = p.1) ∧ Kept g w w' := by
  have HC := Lib.hid (take_any [34] g st w h)
  have HT := Lib.hid hT
  have HL := Lib.hid hl
  have H := Lib.hid h
  have hlt := Lib.hid h.lt
  clear h hT hl
  go_enter Tryd.func63, Tryd.ntmps63
  go_wp2_with (first
    | (go_at_call 57; refine HC.out.mono ?_; rintro e w1 ⟨rfl, hR, hK⟩; have HR := Lib.hid hR; have HK := Lib.hid hK; clear hR hK)
    | fail)
  obtain ⟨s1, hs1⟩ : ∃ s1, Hid (st.bind (eat [34]) = s1) := ⟨_, rfl⟩
  have hR1 : Hid (st.bind rdS = (s1.bind rdB).map fun p => (tx p.1, p.2)) := by
    rw [Hid, ← hs1.out]
    cases st with
    | none => rfl
    | some l =>
      show (eat [34] l).bind _ = _
      show _ = ((eat [34] l).bind rdB).map _
      cases eat [34] l <;> rfl
  have hl1 : Hid (∀ l, s1 = some l → l.length ≤ 1048576) := fun l e => by
    rw [← hs1.out] at e
    obtain ⟨l0, h0, h1⟩ := Option.bind_eq_some_iff.1 e
    rw [eat_iff] at h1
    have := HL.out l0 h0
    rw [h1] at this
    simp at this
    omega
  rw [hs1.out] at HR
  obtain ⟨R, hRR⟩ : ∃ R, Hid (s1.bind rdB = R) := ⟨_, rfl⟩
  obtain ⟨b, hb⟩ : ∃ b, Hid (w1.heap.size = b) := ⟨_, rfl⟩
  have hgb : Hid (g < b) := by rw [Hid, ← hb.out]; exact HR.out.lt
  have hwb : Hid (w.heap.size ≤ b) := by rw [Hid, ← hb.out]; exact HK.out.size
  have HI : Hid (QInv w g b R [] s1 (w1.alloc (.cells #[.pointer none, .slice none 0 0] 53))) := by
    have hfr := Lib.fresh_isBuilder 53 5 w1
    rw [hb.out] at hfr
    refine ⟨HR.out.kept hgb.out ((Below.refl b w1).alloc (by rw [← hb.out]; exact Nat.le_refl _) _), hfr, HK.out.alloc _, by rw [World.size_alloc, hb.out]; omega, fun l e => ?_, ?_⟩
    · have := hl1.out l e; simpa using this
    · rw [hRR.out]
      cases R with
      | none => rfl
      | some p => rfl
  rw [hb.out]
  generalize w1.alloc (.cells #[.pointer none, .slice none 0 0] 53) = ws at *
  rw [hRR.out] at hR1
  clear HR HK hb hs1 hl1 hRR HC H hlt
  go_loopw [] (fun wr => ∃ (acc : List UInt8) (sr : Option (List UInt8)), Hid (QInv w g b R acc sr wr)) (fun wr => mRd wr g)
  case atStart => exact ⟨[], s1, HI⟩
  case round =>
    clear HI
    obtain ⟨acc, sr, HI⟩ := hrel
    cases sr with
    | none =>
      obtain ⟨s, n, hbk0⟩ := HI.out.rd
      have hbk := Lib.hid hbk0
      clear hbk0
      have p0 : wr.cell? ⟨g, 0, none⟩ = some (.string s) := hbk.out.cell 0
      have p1 : wr.cell? ⟨g, 1, none⟩ = some (.iface 87 (.agg #[.int .i64 (n : Int)])) := hbk.out.cell 1
      go_wp2_with fail
      go_ret
      exact q_none hR1 HI.out.said ⟨s, n, hbk.out⟩ HI.out.kept
    | some l =>
      have hme : Hid (mRd wr g = l.length + 1) := HI.out.rd.measure
      have hbk : Hid (Blk wr g 84 #[.string (tx l), .nilIface]) := HI.out.rd
      cases l with
      | nil =>
        have p0 : wr.cell? ⟨g, 0, none⟩ = some (.string ⟨#[]⟩) := hbk.out.cell 0
        have p1 : wr.cell? ⟨g, 1, none⟩ = some .nilIface := hbk.out.cell 1
        have HF := Lib.hid (fail_any g (some []) wr HI.out.rd)
        go_wp2_with (first
          | (go_at_call 45; refine HF.out.mono ?_; rintro e w2 ⟨rfl, hR, hK⟩; have HR := Lib.hid hR; have HK := Lib.hid hK; clear hR hK)
          | fail)
        go_ret
        exact q_none hR1 HI.out.said HR.out (HI.out.kept.trans HK.out)
      | cons c t =>
        obtain ⟨s, hs⟩ : ∃ s, Hid (tx (c :: t) = s) := ⟨_, rfl⟩
        have hsz : Hid (s.size = t.length + 1) := by rw [Hid, ← hs.out, tx_size]; rfl
        have hpos : 0 < s.size := by have := hsz.out; omega
        have hne : s.toList.isEmpty = false := by
          rw [ByteArray.toList_eq, ← hs.out]; rfl
        obtain ⟨r, hr⟩ : ∃ r, Hid (tx t = r) := ⟨_, rfl⟩
        have hx : s.extract 1 s.size = r := by
          rw [← hr.out, ← hs.out]
          apply ByteArray.ext
          simp [tx, ByteArray.size]
        have h0 : s[0] = c := by
          have h1 : s.data.toList = c :: t := by rw [← hs.out]; rfl
          show s.data[0] = c
          rw [← Array.getElem_toList]
          simp [h1]
        rw [hs.out] at hbk
        have p0 : wr.cell? ⟨g, 0, none⟩ = some (.string s) := hbk.out.cell 0
        have p1 : wr.cell? ⟨g, 1, none⟩ = some .nilIface := hbk.out.cell 1
        have f0 : wr.frozen? ⟨g, 0, none⟩ = false := hbk.out.frozen 0
        go_upto_region 8 with (fail)
        have hB8 : Hid (Blk (wr.setCell ⟨g, 0, none⟩ (.string r)) g 84 #[.string r, .nilIface]) := hbk.out.set_ 0 _
        have hR8 : Hid (RdSt (wr.setCell ⟨g, 0, none⟩ (.string r)) g (some t)) := by
          rw [Hid]
          show Blk _ g 84 #[.string (tx t), .nilIface]
          rw [hr.out]
          exact hB8.out
        have hK8 : Hid (Kept g w (wr.setCell ⟨g, 0, none⟩ (.string r))) := HI.out.kept.set 0 _
        have hI8 : Hid (Lib.IsBuilder 53 5 b b (Lib.byteCells acc) (wr.setCell ⟨g, 0, none⟩ (.string r))) := isBuilder_set HI.out.bd hgb.out _
        have hS8 : Hid (b ≤ (wr.setCell ⟨g, 0, none⟩ (.string r)).heap.size) := by
          have h1 := HI.out.size
          show b ≤ _
          simpa [World.setCell] using h1
        have hfit : Hid (acc.length + (t.length + 1) ≤ 1048576) := HI.out.fit _ rfl
        have hsaid : Hid (R = (rdB (c :: t)).map fun p => (acc ++ p.1, p.2)) := HI.out.said
        clear p0 p1 f0 hbk HI hs hsz hpos hne hx h0
        generalize wr.setCell ⟨g, 0, none⟩ (.string r) = W8 at *
        have hT8 : Hid (Tabs W8) := tabs_kept HT.out hg hK8.out
        have HP := Lib.hid (plain_at c W8 hT8.out)
        have p0 : W8.cell? ⟨g, 0, none⟩ = some (.string r) := hB8.out.cell 0
        by_cases hc34 : c = 34
        · subst hc34
          have HBS := Lib.hid (Tryd.Builder_String_any b b acc W8 hI8.out hS8.out)
          go_wp2_with (first
            | (go_at_call 20; refine HP.out.mono ?_; rintro e w2 ⟨rfl, hw⟩; have hw := hw.symm; subst hw)
            | (go_at_call 21; refine HBS.out.mono ?_; rintro e w2 ⟨rfl, hb2⟩; have HB2 := Lib.hid hb2; clear hb2)
            | fail)
          go_ret
          exact q_some hR1 (x := acc) (r := t) (by rw [hsaid.out, rdB_34]; simp) (hR8.out.kept hgb.out HB2.out) (hK8.out.belowB HB2.out hwb.out)
        · have d1 := u8_int (n := 34) (by rfl) hc34
          by_cases hc92 : c = 92
          · subst hc92
            have hip : ix plainL 92 = 1 := by decide
            cases t with
            | nil =>
              have hre : r.toList.isEmpty = true := by rw [ByteArray.toList_eq, ← hr.out]; rfl
              have HF := Lib.hid (fail_any g (some []) W8 hR8.out)
              go_wp2_with (first
                | (go_at_call 20; refine HP.out.mono ?_; rintro e w2 ⟨rfl, hw⟩; have hw := hw.symm; subst hw)
                | (go_at_call 45; refine HF.out.mono ?_; rintro e w3 ⟨rfl, hR, hK⟩; have HR3 := Lib.hid hR; have HK3 := Lib.hid hK; have HI3 := Lib.hid (isBuilder_kept hI8.out hgb.out hK); have HS3 := Lib.hid (Nat.le_trans hS8.out hK.size); clear hR hK)
                | (go_at_call 19; refine (Build.writeByte b b (Lib.byteCells acc) 92 w3 HI3.out (by rw [Lib.byteCells_length]; have := hfit.out; omega) HS3.out).mono ?_; rintro e w4 ⟨rfl, hi, hb⟩; have HI4 := Lib.hid hi; have HB4 := Lib.hid hb; clear hi hb)
                | fail)
              have HQ : QInv w g b R (acc ++ [92]) none w4 := QInv.bad (HR3.out.kept hgb.out HB4.out) (by rw [← cells_snoc]; exact HI4.out) ((hK8.out.trans HK3.out).belowB HB4.out hwb.out) (Nat.le_trans HS3.out HB4.out.size) hsaid.out (rfl)
              exact ⟨⟨_, _, HQ⟩, HQ.less hme.out (Nat.succ_pos _)⟩
            | cons e t2 =>
              have hre : r.toList.isEmpty = false := by rw [ByteArray.toList_eq, ← hr.out]; rfl
              have hrs : Hid (r.size = t2.length + 1) := by rw [Hid, ← hr.out, tx_size]; rfl
              have hrp : 0 < r.size := by have := hrs.out; omega
              obtain ⟨r2, hr2⟩ : ∃ r2, Hid (tx t2 = r2) := ⟨_, rfl⟩
              have hx : r.extract 1 r.size = r2 := by
                rw [← hr2.out, ← hr.out]
                apply ByteArray.ext
                simp [tx, ByteArray.size]
              have h0 : r[0] = e := by
                have h1 : r.data.toList = e :: t2 := by rw [← hr.out]; rfl
                show r.data[0] = e
                rw [← Array.getElem_toList]
                simp [h1]
              have HF : Hid (∀ n, Calls Tryd.prog 45 #[.pointer (some ⟨g, 0, none⟩)] (W8.drewN n) fun e w' => e = .returned (.tuple #[]) ∧ RdSt w' g none ∧ Kept g (W8.drewN n) w') := fun n => fail_any g (some (e :: t2)) (W8.drewN n) hR8.out
              go_upto_region 12 with (first
                | (go_at_call 20; refine HP.out.mono ?_; rintro e w2 ⟨rfl, hw⟩; have hw := hw.symm; subst hw)
                | fail)
              go_quiet (exact Calls.quiet_of_same (signs_at _ _ hT8.out))
              rcases sign_case e with ⟨hu, hi⟩ | ⟨m, hm, hi, hu⟩
              · have HU := Lib.hid hu
                clear hu
                go_wp2_with (first
                  | (go_at_call 45; refine (HF.out _).mono ?_; rintro e w3 ⟨rfl, hR, hK⟩; have HR3 := Lib.hid hR; have HK3 : Hid (Kept g W8 w3) := ((Kept.refl g W8).drewN _).trans hK; have HI3 := Lib.hid (isBuilder_kept hI8.out hgb.out HK3.out); have HS3 := Lib.hid (Nat.le_trans hS8.out HK3.out.size); clear hR hK)
                  | (go_at_call 19; refine (Build.writeByte b b (Lib.byteCells acc) 92 w3 HI3.out (by rw [Lib.byteCells_length]; have := hfit.out; omega) HS3.out).mono ?_; rintro e w4 ⟨rfl, hi, hb⟩; have HI4 := Lib.hid hi; have HB4 := Lib.hid hb; clear hi hb)
                  | fail)
                have HQ : QInv w g b R (acc ++ [92]) none w4 := QInv.bad (HR3.out.kept hgb.out HB4.out) (by rw [← cells_snoc]; exact HI4.out) ((hK8.out.trans HK3.out).belowB HB4.out hwb.out) (Nat.le_trans HS3.out HB4.out.size) hsaid.out (by rw [rdB_sign, HU.out]; rfl)
                exact ⟨⟨_, _, HQ⟩, HQ.less hme.out (Nat.succ_pos _)⟩
              · have HU := Lib.hid hu
                clear hu
                go_upto_region 15 with (fail)
                have d5 : ¬ (5 : Int) ≤ (m : Int) := by omega
                have d6 : ¬ (r.size : Int) < 1 := by omega
                have y1 : (W8.drewN nq).drew.cell? ⟨g, 0, none⟩ = some (.string r) := p0
                have y2 : (W8.drewN nq).drew.cell? ⟨0, m, none⟩ = some (.int .u8 ((plainL[m]'hm).toNat : Int)) := hT8.out.1 m hm
                refine Lefts.region (fun _ => True) (fun W => W.cell? ⟨g, 0, none⟩ = some (.string r) ∧ W.cell? ⟨0, m, none⟩ = some (.int .u8 ((plainL[m]'hm).toNat : Int))) [10, 12] (by kernel_rfl) trivial ⟨y1, y2⟩ (fun hS1 hS => ?_)
                refine Lefts.takeB (i := 0) (u := .pointer (some ⟨g, 0, none⟩)) rfl (by kernel_rfl) (by kernel_rfl) (by kernel_rfl) (by kernel_rfl) (fun _ _ _ h => h) (by assumption) (by assumption) (Or.inl ⟨by rfl, fun W hSW => by obtain ⟨y1, y2⟩ := hSW; go_simp⟩) ?_
                simp only [Act.put, List.setIfInBounds_toArray, List.set_cons_zero, List.set_cons_succ]
                refine Lefts.takeB (i := 1) (u := .int .i64 (m : Int)) rfl (by kernel_rfl) (by kernel_rfl) (by kernel_rfl) (by kernel_rfl) (fun _ _ _ h => h) (by assumption) (by assumption) (Or.inl ⟨by rfl, fun W hSW => by obtain ⟨y1, y2⟩ := hSW; go_simp⟩) ?_
                simp only [Act.put, List.setIfInBounds_toArray, List.set_cons_zero, List.set_cons_succ]
                refine Lefts.takeB (i := 2) (u := .pointer (some ⟨0, m, none⟩)) rfl (by kernel_rfl) (by kernel_rfl) (by kernel_rfl) (by kernel_rfl) (fun _ _ _ h => h) (by assumption) (by assumption) (Or.inl ⟨by rfl, fun W hSW => by obtain ⟨y1, y2⟩ := hSW; go_simp⟩) ?_
                simp only [Act.put, List.setIfInBounds_toArray, List.set_cons_zero, List.set_cons_succ]
                refine Lefts.takeB (i := 3) (u := .int .u8 ((plainL[m]'hm).toNat : Int)) rfl (by kernel_rfl) (by kernel_rfl) (by kernel_rfl) (by kernel_rfl) (fun _ _ _ h => h) (by assumption) (by assumption) (Or.inl ⟨by rfl, fun W hSW => by obtain ⟨y1, y2⟩ := hSW; go_simp⟩) ?_
                simp only [Act.put, List.setIfInBounds_toArray, List.set_cons_zero, List.set_cons_succ]
                refine Lefts.takeB (i := 4) (u := .pointer (some ⟨g, 0, none⟩)) rfl (by kernel_rfl) (by kernel_rfl) (by kernel_rfl) (by kernel_rfl) (fun _ _ _ h => h) (by assumption) (by assumption) (Or.inl ⟨by rfl, fun W hSW => by obtain ⟨y1, y2⟩ := hSW; go_simp⟩) ?_
                simp only [Act.put, List.setIfInBounds_toArray, List.set_cons_zero, List.set_cons_succ]
                refine Lefts.takeB (i := 5) (u := .pointer (some ⟨g, 0, none⟩)) rfl (by kernel_rfl) (by kernel_rfl) (by kernel_rfl) (by kernel_rfl) (fun _ _ _ h => h) (by assumption) (by assumption) (Or.inl ⟨by rfl, fun W hSW => by obtain ⟨y1, y2⟩ := hSW; go_simp⟩) ?_
                simp only [Act.put, List.setIfInBounds_toArray, List.set_cons_zero, List.set_cons_succ]
                refine Lefts.takeB (i := 6) (u := .pointer (some ⟨g, 0, none⟩)) rfl (by kernel_rfl) (by kernel_rfl) (by kernel_rfl) (by kernel_rfl) (fun _ _ _ h => h) (by assumption) (by assumption) (Or.inl ⟨by rfl, fun W hSW => by obtain ⟨y1, y2⟩ := hSW; go_simp⟩) ?_
                simp only [Act.put, List.setIfInBounds_toArray, List.set_cons_zero, List.set_cons_succ]
                refine Lefts.takeB (i := 7) (u := .string r) rfl (by kernel_rfl) (by kernel_rfl) (by kernel_rfl) (by kernel_rfl) (fun _ _ _ h => h) (by assumption) (by assumption) (Or.inl ⟨by rfl, fun W hSW => by obtain ⟨y1, y2⟩ := hSW; go_simp⟩) ?_
                simp only [Act.put, List.setIfInBounds_toArray, List.set_cons_zero, List.set_cons_succ]
                refine Lefts.takeB (i := 8) (u := .string r2) rfl (by kernel_rfl) (by kernel_rfl) (by kernel_rfl) (by kernel_rfl) (fun _ _ _ h => h) (by assumption) (by assumption) (Or.inl ⟨by rfl, fun W hSW => by obtain ⟨y1, y2⟩ := hSW; go_simp⟩) ?_
                simp only [Act.put, List.setIfInBounds_toArray, List.set_cons_zero, List.set_cons_succ]
                refine Lefts.takeB (i := 9) (u := .int .u8 ((plainL[m]'hm).toNat : Int)) rfl (by kernel_rfl) (by kernel_rfl) (by kernel_rfl) (by kernel_rfl) (fun _ _ _ h => h) (by assumption) (by assumption) (Or.inl ⟨by rfl, fun W hSW => by obtain ⟨y1, y2⟩ := hSW; go_simp⟩) ?_
                simp only [Act.put, List.setIfInBounds_toArray, List.set_cons_zero, List.set_cons_succ]
                refine Lefts.takeA (i := 10) (u := .pointer (some ⟨g, 0, none⟩)) rfl (by kernel_rfl) (by kernel_rfl) (by kernel_rfl) (by kernel_rfl) (fun _ _ _ h => h) (by first | assumption | trivial) (Or.inl ⟨by rfl, fun W hSW => by go_simp⟩) ?_
                simp only [Act.put, List.setIfInBounds_toArray, List.set_cons_zero, List.set_cons_succ]
                refine Lefts.takeB (i := 11) (u := .pointer (some ⟨g, 0, none⟩)) rfl (by kernel_rfl) (by kernel_rfl) (by kernel_rfl) (by kernel_rfl) (fun _ _ _ h => h) (by assumption) (by assumption) (Or.inl ⟨by rfl, fun W hSW => by obtain ⟨y1, y2⟩ := hSW; go_simp⟩) ?_
                simp only [Act.put, List.setIfInBounds_toArray, List.set_cons_zero, List.set_cons_succ]
                refine Lefts.one (i := 12) (by kernel_rfl) rfl (fun K hK => ?_)
                have f0 : W8.frozen? ⟨g, 0, none⟩ = false := hB8.out.frozen 0
                go_simp
                refine hK.out _ _ ⟨trivial, fun h => by cases h⟩ ?_
                clear hK K y1 y2 hS hS1
                try simp only [Act.put, List.setIfInBounds_toArray, List.set_cons_zero, List.set_cons_succ]
                refine Lefts.done (by kernel_rfl) ?_ _
                have hBd : Hid (Blk (W8.drewN (nq + 1)) g 84 #[.string r, .nilIface]) := hB8.out
                have hR9 : Hid (RdSt ((W8.drewN (nq + 1)).setCell ⟨g, 0, none⟩ (.string r2)) g (some t2)) := by
                  rw [Hid]
                  show Blk _ g 84 #[.string (tx t2), .nilIface]
                  rw [hr2.out]
                  exact hBd.out.set_ 0 _
                have hK9 : Hid (Kept g w ((W8.drewN (nq + 1)).setCell ⟨g, 0, none⟩ (.string r2))) := (hK8.out.drewN _).set 0 _
                have hKd : Hid (Kept g W8 ((W8.drewN (nq + 1)).setCell ⟨g, 0, none⟩ (.string r2))) := ((Kept.refl g W8).drewN _).set 0 _
                have hI9 := Lib.hid (isBuilder_kept hI8.out hgb.out hKd.out)
                have hS9 := Lib.hid (Nat.le_trans hS8.out hKd.out.size)
                clear hBd hKd p0 f0
                generalize (W8.drewN (nq + 1)).setCell ⟨g, 0, none⟩ (.string r2) = W9 at *
                go_wp2_with (first
                  | (go_at_call 19; refine (Build.writeByte b b (Lib.byteCells acc) ((plainL[m]'hm).toNat : Int) W9 hI9.out (by rw [Lib.byteCells_length]; have := hfit.out; omega) hS9.out).mono ?_; rintro e w4 ⟨rfl, hi, hb⟩; have HI4 := Lib.hid hi; have HB4 := Lib.hid hb; clear hi hb)
                  | fail)
                have HQ : QInv w g b R (acc ++ [plainL[m]'hm]) (some t2) w4 := QInv.good (hR9.out.kept hgb.out HB4.out) (by rw [← cells_snoc]; exact HI4.out) (hK9.out.belowB HB4.out hwb.out) (Nat.le_trans hS9.out HB4.out.size) (by have := hfit.out; simp only [List.length_cons] at this; omega) hsaid.out (by rw [rdB_sign, HU.out]; rfl)
                exact ⟨⟨_, _, HQ⟩, HQ.less hme.out (by show t2.length + 1 < (92 :: e :: t2).length + 1; simp only [List.length_cons]; omega)⟩
          · have d2 := u8_int (n := 92) (by rfl) hc92
            rcases plain_case c hc34 hc92 with ⟨hctl, hix⟩ | ⟨hctl, hix⟩
            · have HCT := Lib.hid hctl
              have HF := Lib.hid (fail_any g (some t) W8 hR8.out)
              clear hctl
              go_wp2_with (first
                | (go_at_call 20; refine HP.out.mono ?_; rintro e w2 ⟨rfl, hw⟩; have hw := hw.symm; subst hw)
                | (go_at_call 45; refine HF.out.mono ?_; rintro e w3 ⟨rfl, hR, hK⟩; have HR3 := Lib.hid hR; have HK3 := Lib.hid hK; have HI3 := Lib.hid (isBuilder_kept hI8.out hgb.out hK); have HS3 := Lib.hid (Nat.le_trans hS8.out hK.size); clear hR hK)
                | (go_at_call 19; refine (Build.writeByte b b (Lib.byteCells acc) (c.toNat : Int) w3 HI3.out (by rw [Lib.byteCells_length]; have := hfit.out; omega) HS3.out).mono ?_; rintro e w4 ⟨rfl, hi, hb⟩; have HI4 := Lib.hid hi; have HB4 := Lib.hid hb; clear hi hb)
                | fail)
              have HQ : QInv w g b R (acc ++ [c]) none w4 := QInv.bad (HR3.out.kept hgb.out HB4.out) (by rw [← cells_snoc]; exact HI4.out) ((hK8.out.trans HK3.out).belowB HB4.out hwb.out) (Nat.le_trans HS3.out HB4.out.size) hsaid.out (rdB_ctl c t hc34 hc92 HCT.out)
              exact ⟨⟨_, _, HQ⟩, HQ.less hme.out (Nat.succ_pos _)⟩
            · have HCT := Lib.hid hctl
              clear hctl
              go_wp2_with (first
                | (go_at_call 20; refine HP.out.mono ?_; rintro e w2 ⟨rfl, hw⟩; have hw := hw.symm; subst hw)
                | (go_at_call 19; refine (Build.writeByte b b (Lib.byteCells acc) (c.toNat : Int) W8 hI8.out (by rw [Lib.byteCells_length]; have := hfit.out; omega) hS8.out).mono ?_; rintro e w4 ⟨rfl, hi, hb⟩; have HI4 := Lib.hid hi; have HB4 := Lib.hid hb; clear hi hb)
                | fail)
              have HQ : QInv w g b R (acc ++ [c]) (some t) w4 := QInv.good (hR8.out.kept hgb.out HB4.out) (by rw [← cells_snoc]; exact HI4.out) (hK8.out.belowB HB4.out hwb.out) (Nat.le_trans hS8.out HB4.out.size) hfit.out hsaid.out (rdB_plain c t hc34 hc92 HCT.out)
              exact ⟨⟨_, _, HQ⟩, HQ.less hme.out (Nat.lt_succ_self _)⟩
end Go.Proofs.YtbldognffppeiaaDoor
