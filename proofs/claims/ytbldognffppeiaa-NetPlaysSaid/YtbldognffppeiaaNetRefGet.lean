/- The reference's network: Size and Get, walked. -/
import Derived.Test.YtbldognffppeiaaNetRef
import Derived.Deep.AppendLies
import Derived.Laws.OwnMore
import Derived.Maps.AppendAt
namespace Go.Proofs.Ytbldognffppeiaa
open Go.RowKit Go.Maps
set_option linter.unusedSimpArgs false
set_option linter.unusedVariables false
theorem refAsk_any (S : Nat → Prop) (rn : Nat) (fs : List (ByteArray × List UInt8)) (zs : List Int) (a : Nat) (hn : fs.length ≤ maxLen) (hm : zs.length ≤ 1152921504606846976) (hab : a ≤ 1048576) (nm : ByteArray) (hnm : nm.size ≤ maxLen) (w : World) (h : RefOf S w rn fs zs a) :
    Calls Try.prog 20 #[.pointer (some ⟨rn, 0, none⟩), .string nm] w fun e w' => RAsk S w' (codeAt zs a) (lookF fs nm) e ∧ w.grownBy w' (some rn) ∧ RefOf S w' rn fs zs (a + 1) := by
  obtain ⟨A, cA, B, cB, h1, h2, h3, h4⟩ := h
  refine (refAsk_some S rn A fs cA B zs cB a hn hm hab nm hnm w h1 h2 h3 h4).mono ?_
  rintro e w' ⟨h5, h6, h7⟩
  exact ⟨h5, h6, RefOf.asked h2 h3 h4 h6 h7⟩
theorem lookF_small {fs : List (ByteArray × List UInt8)} (h : anyBig fs = false) {nm : ByteArray} {b : List UInt8} (hl : lookF fs nm = some b) : b.length ≤ 1048576 := by
  induction fs with
  | nil => cases hl
  | cons f r ih =>
    unfold anyBig at h
    simp only [List.any_cons, Bool.or_eq_false_iff, decide_eq_false_iff_not] at h
    unfold lookF at hl
    split at hl
    · injection hl with hl
      subst hl
      omega
    · exact ih h.2 hl
set_option maxHeartbeats 4000000 in
set_option maxRecDepth 100000 in
theorem refSize_any (S : Nat → Prop) (rn : Nat) (fs : List (ByteArray × List UInt8)) (hbig : Hid (anyBig fs = false)) (zs : List Int) (a : Nat) (hn : fs.length ≤ maxLen) (hm : zs.length ≤ 1152921504606846976) (hab : a ≤ 1048576) (nm : ByteArray) (hnm : nm.size ≤ maxLen) (w : World) (h : RefOf S w rn fs zs a) :
    Calls Try.prog 13 #[.pointer (some ⟨rn, 0, none⟩), .string nm] w fun e w' => e = .returned (.tuple #[.int .i64 (sizeV fs (codeAt zs a) nm).1, .int .i64 (sizeV fs (codeAt zs a) nm).2]) ∧ w.grownBy w' (some rn) ∧ RefOf S w' rn fs zs (a + 1) := by
  have HA := Lib.hid (refAsk_any S rn fs zs a hn hm hab nm hnm w h)
  clear h
  obtain ⟨sv, hsv⟩ : ∃ sv, Hid (sv = sizeV fs (codeAt zs a) nm) := ⟨_, rfl⟩
  rw [← hsv.out]
  obtain ⟨code, hcode⟩ : ∃ code, Hid (code = codeAt zs a) := ⟨_, rfl⟩
  rw [← hcode.out] at HA hsv
  go_enter Try.func13, Try.ntmps13
  go_wp2_with fail
  refine HA.out.mono ?_
  rintro e w2 ⟨hask, hg, hr⟩
  have HG := Lib.hid hg
  have HR := Lib.hid hr
  clear HA hg hr
  rcases hask with ⟨h1, rfl⟩ | ⟨h1, h4, rfl⟩ | ⟨h1, h4, b, A, c, hl, rfl, hbc, hcm, hrd⟩
  · subst h1
    have hs : Hid (sv = (0, 45)) := hsv.out
    clear hcode hsv
    go_wp2_with fail
    go_ret2
    exact ⟨by rw [hs.out]; rfl, HG.out, HR.out⟩
  · have hs : Hid (sv = (0, 14)) := by
      rw [Hid, hsv.out]
      unfold sizeV
      rw [if_neg h1]
      rcases h4 with h4 | h4
      · rw [if_pos h4]
      · rw [h4]; split <;> rfl
    clear hcode hsv h1 h4
    go_wp2_with fail
    go_ret2
    exact ⟨by rw [hs.out]; rfl, HG.out, HR.out⟩
  · unfold maxLen at hcm
    obtain ⟨k, hk⟩ : ∃ k, Hid (k = b.length) := ⟨_, rfl⟩
    rw [← hk.out] at hbc ⊢
    have hs0 : sv = (if code = 2 then ((k / 2 : Nat) : Int) else if code = 3 then ((k + 1 : Nat) : Int) else (k : Int), 0) := by
      rw [hsv.out, hk.out]
      unfold sizeV
      rw [if_neg h1, if_neg h4, hl]
    have hs := Lib.hid hs0
    have hk2 : k ≤ 1048576 := by rw [hk.out]; exact lookF_small hbig.out hl
    clear hcode hsv hs0 hl hrd
    by_cases h2 : code = 2
    · subst h2
      have hs2 : Hid (sv = (((k / 2 : Nat) : Int), 0)) := hs.out
      go_wp2_with fail
      go_ret2
      exact ⟨by rw [hs2.out]; rfl, HG.out, HR.out⟩
    · have e2 : (code == 2) = false := by simpa using h2
      by_cases h3 : code = 3
      · subst h3
        have hs2 : Hid (sv = (((k + 1 : Nat) : Int), 0)) := hs.out
        go_wp2_with fail
        go_ret2
        exact ⟨by rw [hs2.out]; rfl, HG.out, HR.out⟩
      · have e3 : (code == 3) = false := by simpa using h3
        have hs2 : Hid (sv = ((k : Int), 0)) := by
          have h := hs.out
          rw [if_neg h2, if_neg h3] at h
          exact h
        go_wp2_with fail
        go_ret2
        exact ⟨by rw [hs2.out]; rfl, HG.out, HR.out⟩
theorem own_step {w : World} {base : Nat} {v : Value} {l : List UInt8} {p k : Nat} {b : UInt8} (hb : l[p + k]? = some b) (h : w.ownsRow base 5 1 v (k + 1) ((cellsB ((l.drop p).take k)).toList ++ [.int .u8 (b.toNat : Int)])) :
    ∃ A c, v = .slice A (k + 1) c ∧ Hid (w.ownsRow base 5 1 (.slice A (k + 1) c) (k + 1) (cellsB ((l.drop p).take (k + 1))).toList) := by
  have hb2 : (l.drop p)[k]? = some b := by rw [List.getElem?_drop]; exact hb
  have e : (cellsB ((l.drop p).take k)).toList ++ [.int .u8 (b.toNat : Int)] = (cellsB ((l.drop p).take (k + 1))).toList := by
    rw [take_snoc' _ k b hb2]
    simp [cellsB]
  have hlt := (List.getElem?_eq_some_iff.1 hb2).1
  have hl : ((l.drop p).take (k + 1)).length = k + 1 := by rw [List.length_take]; omega
  rw [e] at h
  have h2 : w.ownsRow base 5 1 v ((l.drop p).take (k + 1)).length (cellsB ((l.drop p).take (k + 1))).toList := by rw [hl]; exact h
  obtain ⟨A, c, rfl, _⟩ := own_reads h2
  rw [hl] at h ⊢
  exact ⟨A, c, rfl, h⟩
theorem refGet_bad (rn : Nat) (nm : ByteArray) (p lim : Int) (hbad : p < 0 ∨ lim < 1 ∨ 65536 < lim) (w : World) :
    Calls Try.prog 14 #[.pointer (some ⟨rn, 0, none⟩), .string nm, .int .i64 p, .int .i64 lim] w fun e w' => e = .returned (.tuple #[.slice none 0 0, .int .i64 2]) ∧ w = w' := by
  by_cases h1 : p < 0
  · go_enter Try.func14, Try.ntmps14
    go_wp2_with fail
    go_ret2
    exact ⟨rfl, rfl⟩
  · by_cases h2 : lim < 1
    · go_enter Try.func14, Try.ntmps14
      go_wp2_with fail
      go_ret2
      exact ⟨rfl, rfl⟩
    · have h3 : 65536 < lim := by omega
      clear hbad
      go_enter Try.func14, Try.ntmps14
      go_wp2_with fail
      go_ret2
      exact ⟨rfl, rfl⟩
/-- What the reference's Get says. -/
def RGet (w' : World) (v : List UInt8 × Int) (e : Ending) : Prop := ∃ A c, e = .returned (.tuple #[.slice A v.1.length c, .int .i64 v.2]) ∧ v.1.length ≤ c ∧ ReadsB w' A v.1
set_option maxHeartbeats 4000000 in
set_option maxRecDepth 100000 in
theorem refGet_any (S : Nat → Prop) (rn : Nat) (fs : List (ByteArray × List UInt8)) (hbig : Hid (anyBig fs = false)) (zs : List Int) (a : Nat) (hn : fs.length ≤ maxLen) (hm : zs.length ≤ 1152921504606846976) (hab : a ≤ 1048576) (nm : ByteArray) (hnm : nm.size ≤ maxLen) (p lim : Nat) (hp : p ≤ 9223372036854775807) (hl1 : 1 ≤ lim) (hl2 : lim ≤ 65536) (w : World) (h : RefOf S w rn fs zs a) :
    Calls Try.prog 14 #[.pointer (some ⟨rn, 0, none⟩), .string nm, .int .i64 p, .int .i64 lim] w fun e w' => RGet w' (getV fs (codeAt zs a) nm p lim) e ∧ w.grownBy w' (some rn) ∧ RefOf S w' rn fs zs (a + 1) := by
  have HA := Lib.hid (refAsk_any S rn fs zs a hn hm hab nm hnm w h)
  clear h
  obtain ⟨gv, hgv⟩ : ∃ gv, Hid (gv = getV fs (codeAt zs a) nm p lim) := ⟨_, rfl⟩
  rw [← hgv.out]
  obtain ⟨code, hcode⟩ : ∃ code, Hid (code = codeAt zs a) := ⟨_, rfl⟩
  rw [← hcode.out] at HA hgv
  have h1 : ¬ (p : Int) < 0 := by omega
  have h2 : ¬ (lim : Int) < 1 := by omega
  have h3 : ¬ (65536 : Int) < (lim : Int) := by omega
  go_enter Try.func14, Try.ntmps14
  go_wp2_with fail
  refine HA.out.mono ?_
  rintro e w2 ⟨hask, hg, hr⟩
  have HG := Lib.hid hg
  have HR := Lib.hid hr
  clear HA hg hr
  rcases hask with ⟨h1, rfl⟩ | ⟨h1, h4, rfl⟩ | ⟨h1, h4, b, A, c, hl, rfl, hbc, hcm, hrd⟩
  · subst h1
    have hs : Hid (gv = ([], 45)) := hgv.out
    clear hcode hgv
    go_wp2_with fail
    go_ret2
    exact ⟨⟨none, 0, by rw [hs.out]; rfl, by rw [hs.out]; exact Nat.le_refl _, by rw [hs.out]; exact ReadsB.nil _ _⟩, HG.out, HR.out⟩
  · have hs : Hid (gv = ([], 14)) := by
      rw [Hid, hgv.out]
      unfold getV
      rw [if_neg h1]
      rcases h4 with h4 | h4
      · rw [if_pos h4]
      · rw [h4]; split <;> rfl
    clear hcode hgv h1 h4
    go_wp2_with fail
    go_ret2
    exact ⟨⟨none, 0, by rw [hs.out]; rfl, by rw [hs.out]; exact Nat.le_refl _, by rw [hs.out]; exact ReadsB.nil _ _⟩, HG.out, HR.out⟩
  · unfold maxLen at hcm
    have hs : Hid (gv = (getOut code b p lim, 0)) := by
      rw [Hid, hgv.out]
      unfold getV
      rw [if_neg h1, if_neg h4, hl]
    obtain ⟨n, hnn⟩ : ∃ n, Hid (n = b.length) := ⟨_, rfl⟩
    have hn2 : n ≤ 1048576 := by rw [hnn.out]; exact lookF_small hbig.out hl
    rw [← hnn.out] at hbc ⊢
    have HRD := Lib.hid hrd.reads
    clear hcode hgv hl hrd h1
    obtain ⟨i0, hi0, hz0, hz1, hz2⟩ := info_parts info8'
    have H0 := Lib.hid hz0
    have H1 := Lib.hid hz1
    have H2 := Lib.hid hz2
    have HII := Lib.hid hi0
    clear hi0 hz0 hz1 hz2
    have hB0 := Lib.hid (Below.refl w2.heap.size w2)
    go_upto_block 0 with (fail)
    obtain ⟨K, hK⟩ : ∃ K, Hid (K = min lim (n - p)) := ⟨_, rfl⟩
    have hKl : K ≤ lim := by have := hK.out; omega
    have hKn : K ≤ 1048576 := by omega
    have hKp : 0 < K → p + K ≤ n := by have := hK.out; omega
    go_cut [13] (fun t13 wx => ∃ (A13 : Option Addr) (c13 : Nat), t13 = .slice A13 K c13 ∧ Hid (wx.ownsRow w2.heap.size 5 1 (.slice A13 K c13) K (cellsB ((b.drop p).take K)).toList) ∧ Hid (Below w2.heap.size w2 wx))
    case first =>
      go_wp2_with fail
      go_loopw [13, 14] (fun t13 t14 wr => ∃ (k c13 : Nat) (A13 : Option Addr), t13 = .slice A13 k c13 ∧ t14 = .int .i64 ((p + k : Nat) : Int) ∧ k ≤ K ∧ Hid (wr.ownsRow w2.heap.size 5 1 (.slice A13 k c13) k (cellsB ((b.drop p).take k)).toList) ∧ Hid (Below w2.heap.size w2 wr)) (fun t13 _ _ => match t13 with | .slice _ n _ => K - n | _ => 0)
      case atStart => exact ⟨0, 0, none, rfl, rfl, by omega, World.ownsRow_nil _ _ _ _, hB0⟩
      case round =>
        obtain ⟨k, c13, A13, rfl, rfl, hkK, HO, HB⟩ := hrel
        by_cases hlt : k < K
        · have hpk : p + k < n := by have := hKp (by omega); omega
          obtain ⟨x, hx⟩ : ∃ x, Hid (b[p + k]? = some x) := ⟨_, List.getElem?_eq_getElem (by rw [← hnn.out]; exact hpk)⟩
          obtain ⟨ad, rfl, hc⟩ := HRD.out (by rw [← hnn.out]; omega)
          have hcell := hc (p + k) x hx.out
          have q1 : wr.cell? (ad.add (p + k)) = some (.int .u8 (x.toNat : Int)) := (HB.out.cell (World.block_lt_of_cell? w2 _ hcell)).trans hcell
          have d1 : ((p + k : Nat) : Int) < (n : Int) := by omega
          have d2 : (k : Int) < (lim : Int) := by omega
          have d3 : (0 : Int) ≤ ((p + k : Nat) : Int) := by omega
          have hone : Hid (∀ u ∈ [Value.int IntKind.u8 (x.toNat : Int)], u.oneCell' = true) := fun u hu => by simp at hu; subst hu; rfl
          clear hc hcell hB0
          go_wp2_with (at_builtin; refine append_any rfl (.tmp 48) (.tmp 53) 33 rfl w2.heap.size 5 i0 (.int .u8 0) 1 Try.underlying33 HII.out H0.out H1.out H2.out rfl _ k (cellsB ((b.drop p).take k)).toList rfl (HO.out.alloc _) (some ⟨wr.heap.size, 0, none⟩) 1 1 [.int .u8 (x.toNat : Int)] rfl rfl (fun h => by cases h) (fun ad h => by cases h; exact cell_one_new _ _ _) hone.out (by unfold maxLen; omega) (by omega) (by have := HB.out.size; simp; omega) ?_; intro v5 w5 hown5 hb5; obtain ⟨A5, c5, rfl, HO5⟩ := own_step hx.out hown5; have HB5 : Hid (Below w2.heap.size w2 w5) := (HB.out.alloc HB.out.size _).trans hb5; clear hown5 hb5)
          refine ⟨⟨k + 1, c5, A5, by first | rfl | exact ⟨rfl, rfl, rfl⟩, by first | rfl | (simp; omega), by omega, HO5, HB5⟩, by show K - (k + 1) < K - k; omega⟩
        · obtain rfl : k = K := by omega
          have d1 : ¬ (((p + k : Nat) : Int) < (n : Int)) ∨ ¬ ((k : Int) < (lim : Int)) := by have := hK.out; omega
          by_cases d2 : ((p + k : Nat) : Int) < (n : Int)
          · have d3 : ¬ ((k : Int) < (lim : Int)) := by omega
            clear d1
            go_wp2_with fail
            go_meet
            exact ⟨A13, c13, rfl, HO, HB⟩
          · clear d1
            go_wp2_with fail
            go_meet
            exact ⟨A13, c13, rfl, HO, HB⟩
    case rest =>
      obtain ⟨A13, c13, rfl, HO, HB⟩ := hcut
      obtain ⟨X, hX⟩ : ∃ X, Hid (X = (b.drop p).take K) := ⟨_, rfl⟩
      have hXl : Hid (X.length = K) := by rw [Hid, hX.out, List.length_take, List.length_drop, ← hnn.out]; have := hK.out; omega
      have HO2 : Hid (wc.ownsRow w2.heap.size 5 1 (.slice A13 K c13) K (cellsB X).toList) := by rw [hX.out]; exact HO.out
      have hrd : K ≤ c13 ∧ Hid (ReadsB wc A13 X) := by
        have h := HO2.out
        rw [← hXl.out] at h
        obtain ⟨A, c, e, h1, h2⟩ := own_reads h
        injection e with e1 e2 e3
        subst e1 e3
        rw [← hXl.out]
        exact ⟨h1, h2⟩
      obtain ⟨hKc, HRX⟩ := hrd
      have hcm13 : c13 ≤ 9223372036854775807 := by
        have h := HO.out.2
        rcases h with ⟨e, _⟩ | ⟨g, cap, cur, e, _, _, _, h, _⟩
        · injection e with e1 e2 e3; omega
        · injection e with e1 e2 e3; subst e3; exact h
      have hgo : Hid (getOut code b p lim = if code = 2 then X.take (K / 2) else if code = 3 ∧ 0 < K then X.set (K - 1) (X.getD (K - 1) 0 ^^^ 1) else X) := by
        show getOut code b p lim = _
        unfold getOut getK
        rw [← hnn.out, ← hK.out, hX.out]
        by_cases h2 : code = 2
        · subst h2
          simp [List.take_take, Nat.min_eq_left (Nat.div_le_self K 2)]
        · rw [if_neg h2, if_neg h2]
      have HG5 : Hid (w.grownBy wc (some rn)) := by
        have h := HG.out
        have hb := HB.out
        exact ⟨hb.os.trans h.os, hb.tape.trans h.tape, hb.output.trans h.output, Nat.le_trans h.size hb.size, fun k hk hne => (hb.block k (Nat.lt_of_lt_of_le hk h.size)).trans (h.block k hk hne)⟩
      have HR5 : Hid (RefOf S wc rn fs zs (a + 1)) := HR.out.kept (fun k _ hl => HB.out.block k hl)
      clear HO
      by_cases h2 : code = 2
      · subst h2
        have hgo2 : Hid (getOut 2 b p lim = X.take (K / 2)) := hgo.out
        have hl2 : Hid ((X.take (K / 2)).length = K / 2) := by rw [Hid, List.length_take, hXl.out]; omega
        go_wp2_with fail
        go_ret2
        refine ⟨⟨A13, c13, ?_, ?_, ?_⟩, HG5.out, HR5.out⟩
        · rw [hs.out, hgo2.out, hl2.out]; rfl
        · rw [hs.out, hgo2.out, hl2.out]; omega
        · rw [hs.out, hgo2.out]; exact reads_take HRX.out _
      have e2 : (code == 2) = false := by simpa using h2
      by_cases h3 : code = 3
      · subst h3
        by_cases hK0 : 0 < K
        · obtain ⟨x, hx⟩ : ∃ x, Hid (X[K - 1]? = some x) := ⟨_, List.getElem?_eq_getElem (by rw [hXl.out]; omega)⟩
          have hgo2 : Hid (getOut 3 b p lim = X.set (K - 1) (x ^^^ 1)) := by
            have h := hgo.out
            rw [if_neg (by decide), if_pos ⟨rfl, hK0⟩, List.getD_eq_getElem?_getD, hx.out] at h
            exact h
          obtain ⟨g, cap, e, hg1, hg2⟩ := HO2.out.form hK0
          obtain ⟨rfl, rfl⟩ : A13 = some ⟨g, 0, none⟩ ∧ c13 = cap := by injection e with e1 e2 e3; exact ⟨e1, e3⟩
          have m1 : wc.cell? ⟨g, K - 1, none⟩ = some (.int .u8 (x.toNat : Int)) := by
            rw [HO2.out.cellAt (K - 1) (by omega)]
            have := hx.out
            simp [cellsB, this]
          have m2 : wc.frozen? ⟨g, K - 1, none⟩ = false := HO2.out.frozenAt _
          have d1 : (0 : Int) < (K : Int) := by omega
          have hst := HO2.out.stored (K - 1) (.int .u8 (bits .xor .u8 (x.toNat : Int) 1))
          have hgn : g ≠ rn := fun e => by
            obtain ⟨_, _, _, _, h1, _⟩ := HR.out
            have := (Array.getElem?_eq_some_iff.1 h1).1
            omega
          have HB6 : Hid (Below w2.heap.size w2 (wc.setCell ⟨g, K - 1, none⟩ (.int .u8 (bits .xor .u8 (x.toNat : Int) 1)))) := HB.out.setCell (p := ⟨g, K - 1, none⟩) hg1 _
          have HG6 : Hid (w.grownBy (wc.setCell ⟨g, K - 1, none⟩ (.int .u8 (bits .xor .u8 (x.toNat : Int) 1))) (some rn)) := by
            have h := HG.out
            have hb := HB6.out
            exact ⟨hb.os.trans h.os, hb.tape.trans h.tape, hb.output.trans h.output, Nat.le_trans h.size hb.size, fun k hk hne => (hb.block k (Nat.lt_of_lt_of_le hk h.size)).trans (h.block k hk hne)⟩
          have HR6 : Hid (RefOf S (wc.setCell ⟨g, K - 1, none⟩ (.int .u8 (bits .xor .u8 (x.toNat : Int) 1))) rn fs zs (a + 1)) := HR.out.kept (fun k _ hl => HB6.out.block k hl)
          have HX6 : Hid (ReadsB (wc.setCell ⟨g, K - 1, none⟩ (.int .u8 (bits .xor .u8 (x.toNat : Int) 1))) (some ⟨g, 0, none⟩) (X.set (K - 1) (x ^^^ 1))) := by
            have h := hst.1
            have e5 : (cellsB X).toList.set (K - 1) (.int .u8 (bits .xor .u8 (x.toNat : Int) 1)) = (cellsB (X.set (K - 1) (x ^^^ 1))).toList := by
              rw [flip_int, ← cellsB_set]
              simp
            rw [e5] at h
            have hl : (X.set (K - 1) (x ^^^ 1)).length = K := by rw [List.length_set]; exact hXl.out
            have h2 : (wc.setCell ⟨g, K - 1, none⟩ (.int .u8 (bits .xor .u8 (x.toNat : Int) 1))).ownsRow w2.heap.size 5 1 (.slice (some ⟨g, 0, none⟩) K c13) (X.set (K - 1) (x ^^^ 1)).length (cellsB (X.set (K - 1) (x ^^^ 1))).toList := by rw [hl]; exact h
            obtain ⟨A, c, e, _, h3⟩ := own_reads h2
            injection e with e1
            subst e1
            exact h3
          clear hst e
          go_wp2_with fail
          go_ret2
          refine ⟨⟨some ⟨g, 0, none⟩, c13, ?_, ?_, ?_⟩, HG6.out, HR6.out⟩
          · rw [hs.out, hgo2.out, List.length_set, hXl.out]; rfl
          · rw [hs.out, hgo2.out, List.length_set, hXl.out]; exact hKc
          · rw [hs.out, hgo2.out]; exact HX6.out
        · have hgo2 : Hid (getOut 3 b p lim = X) := by
            have h := hgo.out
            rw [if_neg (by decide), if_neg (fun h => hK0 h.2)] at h
            exact h
          obtain rfl : K = 0 := by omega
          go_wp2_with fail
          go_ret2
          refine ⟨⟨A13, c13, ?_, ?_, ?_⟩, HG5.out, HR5.out⟩
          · rw [hs.out, hgo2.out, hXl.out]; rfl
          · rw [hs.out, hgo2.out, hXl.out]; exact hKc
          · rw [hs.out, hgo2.out]; exact HRX.out
      · have e3 : (code == 3) = false := by simpa using h3
        have hgo2 : Hid (getOut code b p lim = X) := by
          have h := hgo.out
          rw [if_neg h2, if_neg (fun h => h3 h.1)] at h
          exact h
        go_wp2_with fail
        go_ret2
        refine ⟨⟨A13, c13, ?_, ?_, ?_⟩, HG5.out, HR5.out⟩
        · rw [hs.out, hgo2.out, hXl.out]; rfl
        · rw [hs.out, hgo2.out, hXl.out]; exact hKc
        · rw [hs.out, hgo2.out]; exact HRX.out
end Go.Proofs.Ytbldognffppeiaa
