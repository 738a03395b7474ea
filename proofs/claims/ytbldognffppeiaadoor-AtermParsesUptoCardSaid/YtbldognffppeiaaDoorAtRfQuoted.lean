/- The reference's reader: quoted, walked. -/
import Derived.Test.YtbldognffppeiaaDoorAtRfTake
namespace Go.Proofs.YtbldognffppeiaaDoor
open Go.RowKit Quo
set_option linter.unusedSimpArgs false
set_option linter.unusedVariables false
def mRf (w : World) (g : Nat) : Nat := match w.cell? ⟨g, 0, none⟩, w.cell? ⟨g, 1, none⟩, w.cell? ⟨g, 2, none⟩ with | some (.string s), some (.int _ k), some (.bool false) => s.size - k.toNat + 1 | _, _, _ => 0
theorem RfSt.measure {w : World} {g : Nat} {s : ByteArray} {st : Option (List UInt8)} (h : RfSt w g s st) : mRf w g = lenR st := by
  cases st with
  | none =>
    obtain ⟨k, hk, h⟩ := h
    unfold mRf
    rw [h.cell 0, h.cell 1, h.cell 2]
    rfl
  | some l =>
    obtain ⟨k, hk, hl, h⟩ := h
    unfold mRf
    rw [h.cell 0, h.cell 1, h.cell 2]
    show s.size - (k : Int).toNat + 1 = l.length + 1
    rw [← hl, List.length_drop, tx_get, Int.toNat_natCast]
structure QR (w : World) (g : Nat) (s : ByteArray) (R : Option (List UInt8 × List UInt8)) (acc : List UInt8) (sr : Option (List UInt8)) (A : Option Addr) (n c : Nat) (W : World) : Prop where
  rd : RfSt W g s sr
  own : W.ownsRow w.heap.size 5 1 (.slice A n c) n (Lib.byteCells acc)
  kept : Kept g w W
  len : n = acc.length
  small : acc.length ≤ 1048577
  fit : ∀ l, sr = some l → acc.length + l.length ≤ 1048576
  said : R = (sr.bind rdB).map fun p => (acc ++ p.1, p.2)
theorem QR.less {w W wr : World} {g : Nat} {s : ByteArray} {R : Option (List UInt8 × List UInt8)} {acc : List UInt8} {sr : Option (List UInt8)} {A : Option Addr} {n c m : Nat} (h : QR w g s R acc sr A n c W) (hm : mRf wr g = m) (hl : lenR sr < m) : mRf W g < mRf wr g := by rw [hm, h.rd.measure]; exact hl
theorem qr_none {st : Option (List UInt8)} {R : Option (List UInt8 × List UInt8)} {W w : World} {g : Nat} {s q : ByteArray} (hR1 : st.bind rdS = Option.map (fun p => (tx p.1, p.2)) R) (hR : R = none) (h : RfSt W g s none) (hk : Kept g w W) : ∃ q', Ending.returned (.string q) = .returned (.string q') ∧ RfSt W g s ((st.bind rdS).map (·.2)) ∧ (∀ p, st.bind rdS = some p → q' = p.1) ∧ Kept g w W := by
  rw [hR1, hR]
  exact ⟨_, rfl, h, (fun p e => by cases e), hk⟩
theorem qr_some {st : Option (List UInt8)} {R : Option (List UInt8 × List UInt8)} {W w : World} {g : Nat} {s : ByteArray} {x r : List UInt8} (hR1 : st.bind rdS = Option.map (fun p => (tx p.1, p.2)) R) (hR : R = some (x, r)) (h : RfSt W g s (some r)) (hk : Kept g w W) : ∃ q', Ending.returned (.string ⟨x.toArray⟩) = .returned (.string q') ∧ RfSt W g s ((st.bind rdS).map (·.2)) ∧ (∀ p, st.bind rdS = some p → q' = p.1) ∧ Kept g w W := by
  rw [hR1, hR]
  exact ⟨_, rfl, h, (fun p e => by injection e with e; rw [← e]; rfl), hk⟩
theorem said_step {R Y : Option (List UInt8 × List UInt8)} {acc : List UInt8} {x : UInt8} {t : List UInt8} (hR : R = Y.map fun p => (acc ++ p.1, p.2)) (hY : Y = (rdB t).map fun p => (x :: p.1, p.2)) : R = ((some t).bind rdB).map fun p => (acc ++ [x] ++ p.1, p.2) := by
  rw [hR, hY]
  show _ = (rdB t).map _
  cases rdB t with
  | none => rfl
  | some p => simp
theorem said_none {R Y : Option (List UInt8 × List UInt8)} {acc acc' : List UInt8} (hR : R = Y.map fun p => (acc ++ p.1, p.2)) (hY : Y = none) : R = ((none : Option (List UInt8)).bind rdB).map fun p => (acc' ++ p.1, p.2) := by rw [hR, hY]; rfl
theorem drop_succ {s : ByteArray} {k : Nat} {c : UInt8} {t : List UInt8} (h : s.data.toList.drop k = c :: t) : s.data.toList.drop (k + 1) = t ∧ ∃ h : k < s.size, s[k] = c := by
  have hkk : k < s.size := by
    have h1 := congrArg List.length h
    rw [List.length_drop, tx_get] at h1
    simp at h1
    omega
  refine ⟨by rw [← List.tail_drop, h]; rfl, hkk, ?_⟩
  have h1 : s.data.toList[k]? = some c := by
    have h2 : (s.data.toList.drop k)[0]? = some c := by rw [h]; rfl
    rw [List.getElem?_drop] at h2
    simpa using h2
  have h3 := (List.getElem?_eq_some_iff.1 h1).2
  show s.data[k] = c
  rw [← Array.getElem_toList]
  exact h3
set_option maxHeartbeats 8000000 in
set_option maxRecDepth 1000000 in
theorem rfQuoted_any (g : Nat) (s : ByteArray) (st : Option (List UInt8)) (hs : s.size ≤ 1048576) (w : World) (h : RfSt w g s st) : Calls Tryd.prog 49 #[.pointer (some ⟨g, 0, none⟩)] w fun e w' => ∃ q, e = .returned (.string q) ∧ RfSt w' g s ((st.bind rdS).map (·.2)) ∧ (∀ p, st.bind rdS = some p → q = p.1) ∧ Kept g w w' := by
  have HC := Lib.hid (rfTake_any [34] g s st hs (by decide) w h)
  have hlt := Lib.hid h.lt
  obtain ⟨s1, hs1⟩ : ∃ s1, Hid (st.bind (eat [34]) = s1) := ⟨_, rfl⟩
  have hl1 : Hid (Lim s1) := by rw [← hs1.out]; exact (h.lim hs).eat [34]
  obtain ⟨R, hRR⟩ : ∃ R, Hid (s1.bind rdB = R) := ⟨_, rfl⟩
  have hR1 : Hid (st.bind rdS = R.map fun p => (tx p.1, p.2)) := by
    rw [Hid, ← hRR.out, ← hs1.out]
    cases st with
    | none => rfl
    | some l =>
      show (eat [34] l).bind _ = ((eat [34] l).bind rdB).map _
      cases eat [34] l <;> rfl
  rw [hs1.out] at HC
  obtain ⟨i5, hi0, hz0, hz1, hz2⟩ := info_parts Build.info8
  have Z5 := Lib.hid hz0
  have S5 := Lib.hid hz1
  have Y5 := Lib.hid hz2
  have I5 := Lib.hid hi0
  clear hi0 hz0 hz1 hz2 h hs1
  go_enter Tryd.func49, Tryd.ntmps49
  go_wp2_with (first
    | (go_at_call 47; refine HC.out.mono ?_; rintro e w1 ⟨rfl, hr, hk⟩; have HR1 := Lib.hid hr; have HK1 := Lib.hid hk; clear hr hk)
    | fail)
  have HI : Hid (QR w g s R [] s1 none 0 0 w1) := ⟨HR1.out, World.ownsRow_nil _ _ _ _, HK1.out, rfl, Nat.zero_le _, fun l e => by have := hl1.out l e; simpa using this, by
    rw [← hRR.out]
    cases s1.bind rdB <;> rfl⟩
  clear HR1 HK1 HC hl1 hRR
  go_loopw [3] (fun t3 wr => ∃ (acc : List UInt8) (sr : Option (List UInt8)) (A : Option Addr) (n c : Nat), t3 = .slice A n c ∧ Hid (QR w g s R acc sr A n c wr)) (fun _ wr => mRf wr g)
  case atStart => exact ⟨[], s1, none, 0, 0, rfl, HI⟩
  case round =>
    clear HI
    obtain ⟨acc, sr, A, n, c0, rfl, HI⟩ := hrel
    cases sr with
    | none =>
      obtain ⟨k, hk, hbk0⟩ := HI.out.rd
      have hbk := Lib.hid hbk0
      clear hbk0
      have p2 : wr.cell? ⟨g, 2, none⟩ = some (.bool true) := hbk.out.cell 2
      have HE := Lib.hid (rfTake_any [34] g s none hs (by decide) wr HI.out.rd)
      have hcv : ∀ W, Kept g wr W → (convert 41 9 (.slice A n c0)).run Tryd.prog W = .ok (.string ⟨acc.toArray⟩) W := fun W hW => quo_conv HI.out.len (own_keptK HI.out.own hlt.out hW)
      go_upto_region 26 with (first
        | (go_at_call 47; refine HE.out.mono ?_; rintro e w2 ⟨rfl, hr, hk⟩; have HR2 := Lib.hid hr; have HK2 := Lib.hid hk; clear hr hk)
        | fail)
      have hcv2 := hcv w2 HK2.out
      clear hcv p2
      go_wp2_with fail
      go_ret
      exact qr_none hR1 HI.out.said HR2.out (HI.out.kept.trans HK2.out)
    | some l =>
      have hme : Hid (mRf wr g = l.length + 1) := HI.out.rd.measure
      obtain ⟨k, hk, hl, hbk0⟩ := HI.out.rd
      have hbk := Lib.hid hbk0
      have HL := Lib.hid hl
      have HN := Lib.hid (rfNext_any 34 g s (some l) hs wr HI.out.rd)
      clear hbk0 hl
      have p0 : wr.cell? ⟨g, 0, none⟩ = some (.string s) := hbk.out.cell 0
      have p1 : wr.cell? ⟨g, 1, none⟩ = some (.int .i64 (k : Int)) := hbk.out.cell 1
      have p2 : wr.cell? ⟨g, 2, none⟩ = some (.bool false) := hbk.out.cell 2
      have f1 : wr.frozen? ⟨g, 1, none⟩ = false := hbk.out.frozen 1
      have f2 : wr.frozen? ⟨g, 2, none⟩ = false := hbk.out.frozen 2
      cases l with
      | nil =>
        have hkk : k = s.size := by
          have h1 := congrArg List.length HL.out
          rw [List.length_drop, tx_get] at h1
          simp at h1
          omega
        have d1 : (s.size : Int) ≤ (k : Int) := by omega
        have hnx : nextB 34 (some []) = false := rfl
        rw [hnx] at HN
        clear hnx
        go_upto_region 4 with (first | (go_at_call 70; refine HN.out.mono ?_; rintro e w2 ⟨rfl, m, rfl⟩) | fail)
        go_quiet (fail)
        go_wp2_with fail
        go_ret
        refine qr_none hR1 HI.out.said ⟨k, hk, (show Blk (wr.drewN (m + nq)) g 92 _ from hbk.out).set_ 2 _⟩ ((HI.out.kept.drewN (m + nq)).set 2 _)
      | cons c t =>
        obtain ⟨hdr, hkk, hgc⟩ := drop_succ HL.out
        have HDR := Lib.hid hdr
        clear hdr
        by_cases hc34 : c = 34
        · subst hc34
          have hnx : nextB 34 (some (34 :: t)) = true := rfl
          rw [hnx] at HN
          clear hnx
          have HE : Hid (∀ m, Calls Tryd.prog 47 #[.pointer (some ⟨g, 0, none⟩), .string (tx [34])] (wr.drewN m) fun e w' => e = .returned (.tuple #[]) ∧ RfSt w' g s ((some (34 :: t)).bind (eat [34])) ∧ Kept g (wr.drewN m) w') := fun m => rfTake_any [34] g s (some (34 :: t)) hs (by decide) (wr.drewN m) (HI.out.rd.drewN m)
          have hcv : ∀ W, Kept g wr W → (convert 41 9 (.slice A n c0)).run Tryd.prog W = .ok (.string ⟨acc.toArray⟩) W := fun W hW => quo_conv HI.out.len (own_keptK HI.out.own hlt.out hW)
          go_upto_region 26 with (first
            | (go_at_call 70; refine HN.out.mono ?_; rintro e w2 ⟨rfl, m, rfl⟩)
            | (go_at_call 47; refine (HE.out _).mono ?_; rintro e w2 ⟨rfl, hr, hk⟩; have HR2 := Lib.hid hr; have HK2 := Lib.hid (((Kept.refl g wr).drewN m).trans hk); clear hr hk)
            | fail)
          have hcv2 := hcv w2 HK2.out
          clear hcv p0 p1 p2 f1 f2
          go_wp2_with fail
          go_ret
          exact qr_some hR1 (x := acc) (r := t) (by rw [HI.out.said]; show Option.map _ (rdB (34 :: t)) = _; rw [rdB_34]; simp) (by have h4 := HR2.out; rw [show (some (34 :: t)).bind (eat [34]) = some t from (eat_iff [34] _ t).2 rfl] at h4; exact h4) (HI.out.kept.trans HK2.out)
        · have hnx : nextB 34 (some (c :: t)) = false := by simp [nextB, hc34]
          rw [hnx] at HN
          clear hnx
          have d1 : ¬ (s.size : Int) ≤ (k : Int) := by omega
          have d2 : (0 : Int) ≤ (k : Int) := by omega
          obtain ⟨k1, hk1⟩ : ∃ k1 : Nat, (k : Int) + 1 = (k1 : Int) := ⟨k + 1, by omega⟩
          have hk1n : Hid (k1 = k + 1) := by rw [Hid]; omega
          have hwk : IntKind.i64.wrap (k1 : Int) = (k1 : Int) := by rw [IntKind.wrap_i64]; omega
          go_upto_region 4 with (first | (go_at_call 70; refine HN.out.mono ?_; rintro e w2 ⟨rfl, m, rfl⟩) | fail)
          go_quiet (fail)
          generalize hqq : nq = m2
          clear hqq
          go_upto_region 7 with (fail)
          go_quiet (fail)
          go_upto_region 9 with (fail)
          have HB1 : Hid (Blk ((wr.drewN (m + m2 + nq)).setCell ⟨g, 1, none⟩ (.int .i64 (k1 : Int))) g 92 #[.string s, .int .i64 (k1 : Int), .bool false]) := (show Blk (wr.drewN (m + m2 + nq)) g 92 _ from hbk.out).set_ 1 _
          have HO1 : Hid (((wr.drewN (m + m2 + nq)).setCell ⟨g, 1, none⟩ (.int .i64 (k1 : Int))).ownsRow w.heap.size 5 1 (.slice A n c0) n (Lib.byteCells acc)) := own_keptK HI.out.own hlt.out (((Kept.refl g wr).drewN (m + m2 + nq)).set 1 _)
          have HK1 : Hid (Kept g w ((wr.drewN (m + m2 + nq)).setCell ⟨g, 1, none⟩ (.int .i64 (k1 : Int)))) := (HI.out.kept.drewN (m + m2 + nq)).set 1 _
          clear p0 p1 p2 f1 f2 HN hgc d1 d2 hwk
          generalize (wr.drewN (m + m2 + nq)).setCell ⟨g, 1, none⟩ (.int .i64 (k1 : Int)) = X1 at *
          have p0 : X1.cell? ⟨g, 0, none⟩ = some (.string s) := HB1.out.cell 0
          have p1 : X1.cell? ⟨g, 1, none⟩ = some (.int .i64 (k1 : Int)) := HB1.out.cell 1
          have f1 : X1.frozen? ⟨g, 1, none⟩ = false := HB1.out.frozen 1
          have p2 : X1.cell? ⟨g, 2, none⟩ = some (.bool false) := HB1.out.cell 2
          have f2 : X1.frozen? ⟨g, 2, none⟩ = false := HB1.out.frozen 2
          have hk1s : k1 ≤ s.size := by have := hk1n.out; omega
          have HDR1 : Hid (s.data.toList.drop k1 = t) := by rw [Hid, hk1n.out]; exact HDR.out
          clear hk1
          by_cases hc10 : c = 10
          · subst hc10
            go_upto_region 11 with (fail)
            have HB2 : Hid (Blk (X1.setCell ⟨g, 2, none⟩ (.bool true)) g 92 #[.string s, .int .i64 (k1 : Int), .bool true]) := HB1.out.set_ 2 _
            have HO2 : Hid ((X1.setCell ⟨g, 2, none⟩ (.bool true)).ownsRow w.heap.size 5 1 (.slice A n c0) n (Lib.byteCells acc)) := own_set HO1.out hlt.out _
            have HK2 : Hid (Kept g w (X1.setCell ⟨g, 2, none⟩ (.bool true))) := HK1.out.set 2 _
            clear p0 p1 f1 p2 f2
            generalize X1.setCell ⟨g, 2, none⟩ (.bool true) = X2 at *
            go_quiet (fail)
            have HB3 : Hid (RfSt (X2.drewN nq) g s none) := ⟨k1, hk1s, HB2.out⟩
            have HO3 : Hid ((X2.drewN nq).ownsRow w.heap.size 5 1 (.slice A n c0) n (Lib.byteCells acc)) := HO2.out
            have HK3 : Hid (Kept g w (X2.drewN nq)) := HK2.out.drewN nq
            generalize X2.drewN nq = X3 at *
            have hRow := Lib.hid (HO3.out.alloc (.cells #[.int .u8 10] 5))
            have hSz : Hid (w.heap.size ≤ (X3.alloc (.cells #[.int .u8 10] 5)).heap.size) := by have h1 := HK3.out.size; rw [Hid, World.size_alloc]; omega
            have hsm : acc.length ≤ 1048577 := HI.out.small
            have hln := Lib.hid HI.out.len
            have hn1 : n ≤ 1048577 := by rw [hln.out]; exact hsm
            have hsd := Lib.hid HI.out.said
            have hft := Lib.hid (HI.out.fit _ rfl)
            clear HI
            go_wp2_with (first
              | (at_builtin; refine append_any rfl (.tmp 102) (.tmp 104) 41 rfl w.heap.size 5 i5 (.int .u8 0) 1 Tryd.underlying41 I5.out Z5.out S5.out Y5.out rfl (.slice A n c0) n (Lib.byteCells acc) rfl hRow.out (some ⟨X3.heap.size, 0, none⟩) 1 1 [.int .u8 10] rfl rfl (fun h => by cases h) (quo_news (heap_alloc_new X3 _) rfl) (by simp [Value.oneCell']) (by unfold maxLen; omega) (by omega) hSz.out ?_; intro v5 w5 hown5 hb5; obtain ⟨A5, c5, rfl, HO5, HL5⟩ := quo_step (x := [(10 : UInt8)]) hln.out rfl rfl hown5; have HB5 := Lib.hid hb5; clear hown5 hb5)
              | fail)
            have HQ : QR w g s R (acc ++ [(10 : UInt8)]) (none) A5 (n + 1) c5 w5 := ⟨(HB3.out.kept HB3.out.lt ((Below.refl _ _).alloc (Nat.le_refl _) _)).kept hlt.out HB5.out, HO5.out, ((HK3.out.alloc _).belowB HB5.out (Nat.le_refl _)), HL5.out, by have h1 := hft.out; rw [List.length_append]; simp only [List.length_cons, List.length_nil] at h1 ⊢; omega, (fun l e => by cases e), said_none hsd.out (rdB_ctl 10 t (by decide) (by decide) (by decide))⟩
            exact ⟨⟨_, _, _, _, _, rfl, HQ⟩, HQ.less hme.out (by exact Nat.succ_pos _)⟩
          · have a10 := u8_int (n := 10) (by rfl) hc10
            have b10 : ((c.toNat : Int) == 10) = false := byte_eqF (d := 10) hc10
            by_cases hc13 : c = 13
            · subst hc13
              go_upto_region 11 with (fail)
              have HB2 : Hid (Blk (X1.setCell ⟨g, 2, none⟩ (.bool true)) g 92 #[.string s, .int .i64 (k1 : Int), .bool true]) := HB1.out.set_ 2 _
              have HO2 : Hid ((X1.setCell ⟨g, 2, none⟩ (.bool true)).ownsRow w.heap.size 5 1 (.slice A n c0) n (Lib.byteCells acc)) := own_set HO1.out hlt.out _
              have HK2 : Hid (Kept g w (X1.setCell ⟨g, 2, none⟩ (.bool true))) := HK1.out.set 2 _
              clear p0 p1 f1 p2 f2
              generalize X1.setCell ⟨g, 2, none⟩ (.bool true) = X2 at *
              go_quiet (fail)
              have HB3 : Hid (RfSt (X2.drewN nq) g s none) := ⟨k1, hk1s, HB2.out⟩
              have HO3 : Hid ((X2.drewN nq).ownsRow w.heap.size 5 1 (.slice A n c0) n (Lib.byteCells acc)) := HO2.out
              have HK3 : Hid (Kept g w (X2.drewN nq)) := HK2.out.drewN nq
              generalize X2.drewN nq = X3 at *
              have hRow := Lib.hid (HO3.out.alloc (.cells #[.int .u8 13] 5))
              have hSz : Hid (w.heap.size ≤ (X3.alloc (.cells #[.int .u8 13] 5)).heap.size) := by have h1 := HK3.out.size; rw [Hid, World.size_alloc]; omega
              have hsm : acc.length ≤ 1048577 := HI.out.small
              have hln := Lib.hid HI.out.len
              have hn1 : n ≤ 1048577 := by rw [hln.out]; exact hsm
              have hsd := Lib.hid HI.out.said
              have hft := Lib.hid (HI.out.fit _ rfl)
              clear HI
              go_wp2_with (first
                | (at_builtin; refine append_any rfl (.tmp 102) (.tmp 104) 41 rfl w.heap.size 5 i5 (.int .u8 0) 1 Tryd.underlying41 I5.out Z5.out S5.out Y5.out rfl (.slice A n c0) n (Lib.byteCells acc) rfl hRow.out (some ⟨X3.heap.size, 0, none⟩) 1 1 [.int .u8 13] rfl rfl (fun h => by cases h) (quo_news (heap_alloc_new X3 _) rfl) (by simp [Value.oneCell']) (by unfold maxLen; omega) (by omega) hSz.out ?_; intro v5 w5 hown5 hb5; obtain ⟨A5, c5, rfl, HO5, HL5⟩ := quo_step (x := [(13 : UInt8)]) hln.out rfl rfl hown5; have HB5 := Lib.hid hb5; clear hown5 hb5)
                | fail)
              have HQ : QR w g s R (acc ++ [(13 : UInt8)]) (none) A5 (n + 1) c5 w5 := ⟨(HB3.out.kept HB3.out.lt ((Below.refl _ _).alloc (Nat.le_refl _) _)).kept hlt.out HB5.out, HO5.out, ((HK3.out.alloc _).belowB HB5.out (Nat.le_refl _)), HL5.out, by have h1 := hft.out; rw [List.length_append]; simp only [List.length_cons, List.length_nil] at h1 ⊢; omega, (fun l e => by cases e), said_none hsd.out (rdB_ctl 13 t (by decide) (by decide) (by decide))⟩
              exact ⟨⟨_, _, _, _, _, rfl, HQ⟩, HQ.less hme.out (by exact Nat.succ_pos _)⟩
            · have a13 := u8_int (n := 13) (by rfl) hc13
              have b13 : ((c.toNat : Int) == 13) = false := byte_eqF (d := 13) hc13
              by_cases hc9 : c = 9
              · subst hc9
                go_upto_region 11 with (fail)
                have HB2 : Hid (Blk (X1.setCell ⟨g, 2, none⟩ (.bool true)) g 92 #[.string s, .int .i64 (k1 : Int), .bool true]) := HB1.out.set_ 2 _
                have HO2 : Hid ((X1.setCell ⟨g, 2, none⟩ (.bool true)).ownsRow w.heap.size 5 1 (.slice A n c0) n (Lib.byteCells acc)) := own_set HO1.out hlt.out _
                have HK2 : Hid (Kept g w (X1.setCell ⟨g, 2, none⟩ (.bool true))) := HK1.out.set 2 _
                clear p0 p1 f1 p2 f2
                generalize X1.setCell ⟨g, 2, none⟩ (.bool true) = X2 at *
                go_quiet (fail)
                have HB3 : Hid (RfSt (X2.drewN nq) g s none) := ⟨k1, hk1s, HB2.out⟩
                have HO3 : Hid ((X2.drewN nq).ownsRow w.heap.size 5 1 (.slice A n c0) n (Lib.byteCells acc)) := HO2.out
                have HK3 : Hid (Kept g w (X2.drewN nq)) := HK2.out.drewN nq
                generalize X2.drewN nq = X3 at *
                have hRow := Lib.hid (HO3.out.alloc (.cells #[.int .u8 9] 5))
                have hSz : Hid (w.heap.size ≤ (X3.alloc (.cells #[.int .u8 9] 5)).heap.size) := by have h1 := HK3.out.size; rw [Hid, World.size_alloc]; omega
                have hsm : acc.length ≤ 1048577 := HI.out.small
                have hln := Lib.hid HI.out.len
                have hn1 : n ≤ 1048577 := by rw [hln.out]; exact hsm
                have hsd := Lib.hid HI.out.said
                have hft := Lib.hid (HI.out.fit _ rfl)
                clear HI
                go_wp2_with (first
                  | (at_builtin; refine append_any rfl (.tmp 102) (.tmp 104) 41 rfl w.heap.size 5 i5 (.int .u8 0) 1 Tryd.underlying41 I5.out Z5.out S5.out Y5.out rfl (.slice A n c0) n (Lib.byteCells acc) rfl hRow.out (some ⟨X3.heap.size, 0, none⟩) 1 1 [.int .u8 9] rfl rfl (fun h => by cases h) (quo_news (heap_alloc_new X3 _) rfl) (by simp [Value.oneCell']) (by unfold maxLen; omega) (by omega) hSz.out ?_; intro v5 w5 hown5 hb5; obtain ⟨A5, c5, rfl, HO5, HL5⟩ := quo_step (x := [(9 : UInt8)]) hln.out rfl rfl hown5; have HB5 := Lib.hid hb5; clear hown5 hb5)
                  | fail)
                have HQ : QR w g s R (acc ++ [(9 : UInt8)]) (none) A5 (n + 1) c5 w5 := ⟨(HB3.out.kept HB3.out.lt ((Below.refl _ _).alloc (Nat.le_refl _) _)).kept hlt.out HB5.out, HO5.out, ((HK3.out.alloc _).belowB HB5.out (Nat.le_refl _)), HL5.out, by have h1 := hft.out; rw [List.length_append]; simp only [List.length_cons, List.length_nil] at h1 ⊢; omega, (fun l e => by cases e), said_none hsd.out (rdB_ctl 9 t (by decide) (by decide) (by decide))⟩
                exact ⟨⟨_, _, _, _, _, rfl, HQ⟩, HQ.less hme.out (by exact Nat.succ_pos _)⟩
              · have a9 := u8_int (n := 9) (by rfl) hc9
                have b9 : ((c.toNat : Int) == 9) = false := byte_eqF (d := 9) hc9
                by_cases hc92 : c = 92
                · subst hc92
                  cases t with
                  | nil =>
                    have hke : k1 = s.size := by
                      have h1 := congrArg List.length HDR1.out
                      rw [List.length_drop, tx_get] at h1
                      simp at h1
                      omega
                    have d1 : ¬ (k1 : Int) < (s.size : Int) := by omega
                    go_upto_region 11 with (fail)
                    go_quiet (fail)
                    have HB3 : Hid (RfSt (X1.drewN nq) g s (some [])) := ⟨k1, hk1s, HDR1.out, HB1.out⟩
                    have HO3 : Hid ((X1.drewN nq).ownsRow w.heap.size 5 1 (.slice A n c0) n (Lib.byteCells acc)) := HO1.out
                    have HK3 : Hid (Kept g w (X1.drewN nq)) := HK1.out.drewN nq
                    clear p0 p1 f1 p2 f2
                    generalize X1.drewN nq = X3 at *
                    have hRow := Lib.hid (HO3.out.alloc (.cells #[.int .u8 92] 5))
                    have hSz : Hid (w.heap.size ≤ (X3.alloc (.cells #[.int .u8 92] 5)).heap.size) := by have h1 := HK3.out.size; rw [Hid, World.size_alloc]; omega
                    have hsm : acc.length ≤ 1048577 := HI.out.small
                    have hln := Lib.hid HI.out.len
                    have hn1 : n ≤ 1048577 := by rw [hln.out]; exact hsm
                    have hsd := Lib.hid HI.out.said
                    have hft := Lib.hid (HI.out.fit _ rfl)
                    clear HI
                    go_wp2_with (first
                      | (at_builtin; refine append_any rfl (.tmp 102) (.tmp 104) 41 rfl w.heap.size 5 i5 (.int .u8 0) 1 Tryd.underlying41 I5.out Z5.out S5.out Y5.out rfl (.slice A n c0) n (Lib.byteCells acc) rfl hRow.out (some ⟨X3.heap.size, 0, none⟩) 1 1 [.int .u8 92] rfl rfl (fun h => by cases h) (quo_news (heap_alloc_new X3 _) rfl) (by simp [Value.oneCell']) (by unfold maxLen; omega) (by omega) hSz.out ?_; intro v5 w5 hown5 hb5; obtain ⟨A5, c5, rfl, HO5, HL5⟩ := quo_step (x := [(92 : UInt8)]) hln.out rfl rfl hown5; have HB5 := Lib.hid hb5; clear hown5 hb5)
                      | fail)
                    have HQ : QR w g s R (acc ++ [(92 : UInt8)]) (some []) A5 (n + 1) c5 w5 := ⟨(HB3.out.kept HB3.out.lt ((Below.refl _ _).alloc (Nat.le_refl _) _)).kept hlt.out HB5.out, HO5.out, ((HK3.out.alloc _).belowB HB5.out (Nat.le_refl _)), HL5.out, by have h1 := hft.out; rw [List.length_append]; simp only [List.length_cons, List.length_nil] at h1 ⊢; omega, (fun l e => by injection e with e; have h1 := hft.out; rw [← e, List.length_append]; simp only [List.length_cons, List.length_nil] at h1 ⊢; omega), said_step hsd.out rfl⟩
                    exact ⟨⟨_, _, _, _, _, rfl, HQ⟩, HQ.less hme.out (by show _ < _; simp only [lenR, List.length_cons]; omega)⟩
                  | cons e t2 =>
                    obtain ⟨hdr2, hkk2, hgc2⟩ := drop_succ HDR1.out
                    have HDR2 := Lib.hid hdr2
                    have d1 : (k1 : Int) < (s.size : Int) := by omega
                    have d2 : (0 : Int) ≤ (k1 : Int) := by omega
                    obtain ⟨k2, hk2⟩ : ∃ k2 : Nat, (k1 : Int) + 1 = (k2 : Int) := ⟨k1 + 1, by omega⟩
                    have hk2n : Hid (k2 = k1 + 1) := by rw [Hid]; omega
                    have hwk : IntKind.i64.wrap (k2 : Int) = (k2 : Int) := by rw [IntKind.wrap_i64]; omega
                    clear hdr2
                    go_upto_region 11 with (fail)
                    go_quiet (fail)
                    generalize hqq : nq = m2
                    clear hqq
                    go_upto_region 12 with (fail)
                    go_quiet (fail)
                    go_upto_region 14 with (fail)
                    have HB2 : Hid (Blk ((X1.drewN (m2 + nq)).setCell ⟨g, 1, none⟩ (.int .i64 (k2 : Int))) g 92 #[.string s, .int .i64 (k2 : Int), .bool false]) := (show Blk (X1.drewN (m2 + nq)) g 92 _ from HB1.out).set_ 1 _
                    have HO2 : Hid (((X1.drewN (m2 + nq)).setCell ⟨g, 1, none⟩ (.int .i64 (k2 : Int))).ownsRow w.heap.size 5 1 (.slice A n c0) n (Lib.byteCells acc)) := own_set (show (X1.drewN (m2 + nq)).ownsRow w.heap.size 5 1 (.slice A n c0) n (Lib.byteCells acc) from HO1.out) hlt.out _
                    have HK2 : Hid (Kept g w ((X1.drewN (m2 + nq)).setCell ⟨g, 1, none⟩ (.int .i64 (k2 : Int)))) := (HK1.out.drewN (m2 + nq)).set 1 _
                    clear p0 p1 f1 p2 f2 hgc2 d1 d2 hwk
                    generalize (X1.drewN (m2 + nq)).setCell ⟨g, 1, none⟩ (.int .i64 (k2 : Int)) = X2 at *
                    have HR2 : Hid (RfSt X2 g s (some t2)) := ⟨k2, by have := hk2n.out; omega, by rw [hk2n.out]; exact HDR2.out, HB2.out⟩
                    have f2 : X2.frozen? ⟨g, 2, none⟩ = false := HB2.out.frozen 2
                    have p2 : X2.cell? ⟨g, 2, none⟩ = some (.bool false) := HB2.out.cell 2
                    clear hk2
                    by_cases he34 : e = 34
                    · subst he34
                      go_upto_region 24 with (fail)
                      clear p2 f2
                      have hRow := Lib.hid (HO2.out.alloc (.cells #[.int .u8 34] 5))
                      have hSz : Hid (w.heap.size ≤ (X2.alloc (.cells #[.int .u8 34] 5)).heap.size) := by have h1 := HK2.out.size; rw [Hid, World.size_alloc]; omega
                      have hsm : acc.length ≤ 1048577 := HI.out.small
                      have hln := Lib.hid HI.out.len
                      have hn1 : n ≤ 1048577 := by rw [hln.out]; exact hsm
                      have hsd := Lib.hid HI.out.said
                      have hft := Lib.hid (HI.out.fit _ rfl)
                      clear HI
                      go_wp2_with (first
                        | (at_builtin; refine append_any rfl (.tmp 102) (.tmp 104) 41 rfl w.heap.size 5 i5 (.int .u8 0) 1 Tryd.underlying41 I5.out Z5.out S5.out Y5.out rfl (.slice A n c0) n (Lib.byteCells acc) rfl hRow.out (some ⟨X2.heap.size, 0, none⟩) 1 1 [.int .u8 34] rfl rfl (fun h => by cases h) (quo_news (heap_alloc_new X2 _) rfl) (by simp [Value.oneCell']) (by unfold maxLen; omega) (by omega) hSz.out ?_; intro v5 w5 hown5 hb5; obtain ⟨A5, c5, rfl, HO5, HL5⟩ := quo_step (x := [(34 : UInt8)]) hln.out rfl rfl hown5; have HB5 := Lib.hid hb5; clear hown5 hb5)
                        | fail)
                      have HQ : QR w g s R (acc ++ [(34 : UInt8)]) (some t2) A5 (n + 1) c5 w5 := ⟨(HR2.out.kept HR2.out.lt ((Below.refl _ _).alloc (Nat.le_refl _) _)).kept hlt.out HB5.out, HO5.out, ((HK2.out.alloc _).belowB HB5.out (Nat.le_refl _)), HL5.out, by have h1 := hft.out; rw [List.length_append]; simp only [List.length_cons, List.length_nil] at h1 ⊢; omega, (fun l e => by injection e with e; have h1 := hft.out; rw [← e, List.length_append]; simp only [List.length_cons, List.length_nil] at h1 ⊢; omega), said_step hsd.out (by show rdB _ = _; rw [rdB_sign]; rfl)⟩
                      exact ⟨⟨_, _, _, _, _, rfl, HQ⟩, HQ.less hme.out (by show _ < _; simp only [lenR, List.length_cons]; omega)⟩
                    · have a34 := u8_int (n := 34) (by rfl) he34
                      have c34 : ((e.toNat : Int) == 34) = false := byte_eqF (d := 34) he34
                      by_cases he92 : e = 92
                      · subst he92
                        go_upto_region 24 with (fail)
                        clear p2 f2
                        have hRow := Lib.hid (HO2.out.alloc (.cells #[.int .u8 92] 5))
                        have hSz : Hid (w.heap.size ≤ (X2.alloc (.cells #[.int .u8 92] 5)).heap.size) := by have h1 := HK2.out.size; rw [Hid, World.size_alloc]; omega
                        have hsm : acc.length ≤ 1048577 := HI.out.small
                        have hln := Lib.hid HI.out.len
                        have hn1 : n ≤ 1048577 := by rw [hln.out]; exact hsm
                        have hsd := Lib.hid HI.out.said
                        have hft := Lib.hid (HI.out.fit _ rfl)
                        clear HI
                        go_wp2_with (first
                          | (at_builtin; refine append_any rfl (.tmp 102) (.tmp 104) 41 rfl w.heap.size 5 i5 (.int .u8 0) 1 Tryd.underlying41 I5.out Z5.out S5.out Y5.out rfl (.slice A n c0) n (Lib.byteCells acc) rfl hRow.out (some ⟨X2.heap.size, 0, none⟩) 1 1 [.int .u8 92] rfl rfl (fun h => by cases h) (quo_news (heap_alloc_new X2 _) rfl) (by simp [Value.oneCell']) (by unfold maxLen; omega) (by omega) hSz.out ?_; intro v5 w5 hown5 hb5; obtain ⟨A5, c5, rfl, HO5, HL5⟩ := quo_step (x := [(92 : UInt8)]) hln.out rfl rfl hown5; have HB5 := Lib.hid hb5; clear hown5 hb5)
                          | fail)
                        have HQ : QR w g s R (acc ++ [(92 : UInt8)]) (some t2) A5 (n + 1) c5 w5 := ⟨(HR2.out.kept HR2.out.lt ((Below.refl _ _).alloc (Nat.le_refl _) _)).kept hlt.out HB5.out, HO5.out, ((HK2.out.alloc _).belowB HB5.out (Nat.le_refl _)), HL5.out, by have h1 := hft.out; rw [List.length_append]; simp only [List.length_cons, List.length_nil] at h1 ⊢; omega, (fun l e => by injection e with e; have h1 := hft.out; rw [← e, List.length_append]; simp only [List.length_cons, List.length_nil] at h1 ⊢; omega), said_step hsd.out (by show rdB _ = _; rw [rdB_sign]; rfl)⟩
                        exact ⟨⟨_, _, _, _, _, rfl, HQ⟩, HQ.less hme.out (by show _ < _; simp only [lenR, List.length_cons]; omega)⟩
                      · have a92 := u8_int (n := 92) (by rfl) he92
                        have c92 : ((e.toNat : Int) == 92) = false := byte_eqF (d := 92) he92
                        by_cases he110 : e = 110
                        · subst he110
                          go_upto_region 24 with (fail)
                          clear p2 f2
                          have hRow := Lib.hid (HO2.out.alloc (.cells #[.int .u8 10] 5))
                          have hSz : Hid (w.heap.size ≤ (X2.alloc (.cells #[.int .u8 10] 5)).heap.size) := by have h1 := HK2.out.size; rw [Hid, World.size_alloc]; omega
                          have hsm : acc.length ≤ 1048577 := HI.out.small
                          have hln := Lib.hid HI.out.len
                          have hn1 : n ≤ 1048577 := by rw [hln.out]; exact hsm
                          have hsd := Lib.hid HI.out.said
                          have hft := Lib.hid (HI.out.fit _ rfl)
                          clear HI
                          go_wp2_with (first
                            | (at_builtin; refine append_any rfl (.tmp 102) (.tmp 104) 41 rfl w.heap.size 5 i5 (.int .u8 0) 1 Tryd.underlying41 I5.out Z5.out S5.out Y5.out rfl (.slice A n c0) n (Lib.byteCells acc) rfl hRow.out (some ⟨X2.heap.size, 0, none⟩) 1 1 [.int .u8 10] rfl rfl (fun h => by cases h) (quo_news (heap_alloc_new X2 _) rfl) (by simp [Value.oneCell']) (by unfold maxLen; omega) (by omega) hSz.out ?_; intro v5 w5 hown5 hb5; obtain ⟨A5, c5, rfl, HO5, HL5⟩ := quo_step (x := [(10 : UInt8)]) hln.out rfl rfl hown5; have HB5 := Lib.hid hb5; clear hown5 hb5)
                            | fail)
                          have HQ : QR w g s R (acc ++ [(10 : UInt8)]) (some t2) A5 (n + 1) c5 w5 := ⟨(HR2.out.kept HR2.out.lt ((Below.refl _ _).alloc (Nat.le_refl _) _)).kept hlt.out HB5.out, HO5.out, ((HK2.out.alloc _).belowB HB5.out (Nat.le_refl _)), HL5.out, by have h1 := hft.out; rw [List.length_append]; simp only [List.length_cons, List.length_nil] at h1 ⊢; omega, (fun l e => by injection e with e; have h1 := hft.out; rw [← e, List.length_append]; simp only [List.length_cons, List.length_nil] at h1 ⊢; omega), said_step hsd.out (by show rdB _ = _; rw [rdB_sign]; rfl)⟩
                          exact ⟨⟨_, _, _, _, _, rfl, HQ⟩, HQ.less hme.out (by show _ < _; simp only [lenR, List.length_cons]; omega)⟩
                        · have a110 := u8_int (n := 110) (by rfl) he110
                          have c110 : ((e.toNat : Int) == 110) = false := byte_eqF (d := 110) he110
                          by_cases he114 : e = 114
                          · subst he114
                            go_upto_region 24 with (fail)
                            clear p2 f2
                            have hRow := Lib.hid (HO2.out.alloc (.cells #[.int .u8 13] 5))
                            have hSz : Hid (w.heap.size ≤ (X2.alloc (.cells #[.int .u8 13] 5)).heap.size) := by have h1 := HK2.out.size; rw [Hid, World.size_alloc]; omega
                            have hsm : acc.length ≤ 1048577 := HI.out.small
                            have hln := Lib.hid HI.out.len
                            have hn1 : n ≤ 1048577 := by rw [hln.out]; exact hsm
                            have hsd := Lib.hid HI.out.said
                            have hft := Lib.hid (HI.out.fit _ rfl)
                            clear HI
                            go_wp2_with (first
                              | (at_builtin; refine append_any rfl (.tmp 102) (.tmp 104) 41 rfl w.heap.size 5 i5 (.int .u8 0) 1 Tryd.underlying41 I5.out Z5.out S5.out Y5.out rfl (.slice A n c0) n (Lib.byteCells acc) rfl hRow.out (some ⟨X2.heap.size, 0, none⟩) 1 1 [.int .u8 13] rfl rfl (fun h => by cases h) (quo_news (heap_alloc_new X2 _) rfl) (by simp [Value.oneCell']) (by unfold maxLen; omega) (by omega) hSz.out ?_; intro v5 w5 hown5 hb5; obtain ⟨A5, c5, rfl, HO5, HL5⟩ := quo_step (x := [(13 : UInt8)]) hln.out rfl rfl hown5; have HB5 := Lib.hid hb5; clear hown5 hb5)
                              | fail)
                            have HQ : QR w g s R (acc ++ [(13 : UInt8)]) (some t2) A5 (n + 1) c5 w5 := ⟨(HR2.out.kept HR2.out.lt ((Below.refl _ _).alloc (Nat.le_refl _) _)).kept hlt.out HB5.out, HO5.out, ((HK2.out.alloc _).belowB HB5.out (Nat.le_refl _)), HL5.out, by have h1 := hft.out; rw [List.length_append]; simp only [List.length_cons, List.length_nil] at h1 ⊢; omega, (fun l e => by injection e with e; have h1 := hft.out; rw [← e, List.length_append]; simp only [List.length_cons, List.length_nil] at h1 ⊢; omega), said_step hsd.out (by show rdB _ = _; rw [rdB_sign]; rfl)⟩
                            exact ⟨⟨_, _, _, _, _, rfl, HQ⟩, HQ.less hme.out (by show _ < _; simp only [lenR, List.length_cons]; omega)⟩
                          · have a114 := u8_int (n := 114) (by rfl) he114
                            have c114 : ((e.toNat : Int) == 114) = false := byte_eqF (d := 114) he114
                            by_cases he116 : e = 116
                            · subst he116
                              go_upto_region 24 with (fail)
                              clear p2 f2
                              have hRow := Lib.hid (HO2.out.alloc (.cells #[.int .u8 9] 5))
                              have hSz : Hid (w.heap.size ≤ (X2.alloc (.cells #[.int .u8 9] 5)).heap.size) := by have h1 := HK2.out.size; rw [Hid, World.size_alloc]; omega
                              have hsm : acc.length ≤ 1048577 := HI.out.small
                              have hln := Lib.hid HI.out.len
                              have hn1 : n ≤ 1048577 := by rw [hln.out]; exact hsm
                              have hsd := Lib.hid HI.out.said
                              have hft := Lib.hid (HI.out.fit _ rfl)
                              clear HI
                              go_wp2_with (first
                                | (at_builtin; refine append_any rfl (.tmp 102) (.tmp 104) 41 rfl w.heap.size 5 i5 (.int .u8 0) 1 Tryd.underlying41 I5.out Z5.out S5.out Y5.out rfl (.slice A n c0) n (Lib.byteCells acc) rfl hRow.out (some ⟨X2.heap.size, 0, none⟩) 1 1 [.int .u8 9] rfl rfl (fun h => by cases h) (quo_news (heap_alloc_new X2 _) rfl) (by simp [Value.oneCell']) (by unfold maxLen; omega) (by omega) hSz.out ?_; intro v5 w5 hown5 hb5; obtain ⟨A5, c5, rfl, HO5, HL5⟩ := quo_step (x := [(9 : UInt8)]) hln.out rfl rfl hown5; have HB5 := Lib.hid hb5; clear hown5 hb5)
                                | fail)
                              have HQ : QR w g s R (acc ++ [(9 : UInt8)]) (some t2) A5 (n + 1) c5 w5 := ⟨(HR2.out.kept HR2.out.lt ((Below.refl _ _).alloc (Nat.le_refl _) _)).kept hlt.out HB5.out, HO5.out, ((HK2.out.alloc _).belowB HB5.out (Nat.le_refl _)), HL5.out, by have h1 := hft.out; rw [List.length_append]; simp only [List.length_cons, List.length_nil] at h1 ⊢; omega, (fun l e => by injection e with e; have h1 := hft.out; rw [← e, List.length_append]; simp only [List.length_cons, List.length_nil] at h1 ⊢; omega), said_step hsd.out (by show rdB _ = _; rw [rdB_sign]; rfl)⟩
                              exact ⟨⟨_, _, _, _, _, rfl, HQ⟩, HQ.less hme.out (by show _ < _; simp only [lenR, List.length_cons]; omega)⟩
                            · have a116 := u8_int (n := 116) (by rfl) he116
                              have c116 : ((e.toNat : Int) == 116) = false := byte_eqF (d := 116) he116
                              have hun : unsign e = none := by unfold unsign; rw [if_neg he34, if_neg he92, if_neg he110, if_neg he114, if_neg he116]
                              have HUN := Lib.hid hun
                              clear hun
                              go_upto_region 24 with (fail)
                              have HB4 : Hid (Blk (X2.setCell ⟨g, 2, none⟩ (.bool true)) g 92 #[.string s, .int .i64 (k2 : Int), .bool true]) := HB2.out.set_ 2 _
                              have HR4 : Hid (RfSt (X2.setCell ⟨g, 2, none⟩ (.bool true)) g s none) := ⟨k2, by have := hk2n.out; omega, HB4.out⟩
                              have HO4 : Hid ((X2.setCell ⟨g, 2, none⟩ (.bool true)).ownsRow w.heap.size 5 1 (.slice A n c0) n (Lib.byteCells acc)) := own_set HO2.out hlt.out _
                              have HK4 : Hid (Kept g w (X2.setCell ⟨g, 2, none⟩ (.bool true))) := HK2.out.set 2 _
                              clear p2 f2 HB4
                              generalize X2.setCell ⟨g, 2, none⟩ (.bool true) = X4 at *
                              have hRow := Lib.hid (HO4.out.alloc (.cells #[.int .u8 (e.toNat : Int)] 5))
                              have hSz : Hid (w.heap.size ≤ (X4.alloc (.cells #[.int .u8 (e.toNat : Int)] 5)).heap.size) := by have h1 := HK4.out.size; rw [Hid, World.size_alloc]; omega
                              have hsm : acc.length ≤ 1048577 := HI.out.small
                              have hln := Lib.hid HI.out.len
                              have hn1 : n ≤ 1048577 := by rw [hln.out]; exact hsm
                              have hsd := Lib.hid HI.out.said
                              have hft := Lib.hid (HI.out.fit _ rfl)
                              clear HI
                              go_wp2_with (first
                                | (at_builtin; refine append_any rfl (.tmp 102) (.tmp 104) 41 rfl w.heap.size 5 i5 (.int .u8 0) 1 Tryd.underlying41 I5.out Z5.out S5.out Y5.out rfl (.slice A n c0) n (Lib.byteCells acc) rfl hRow.out (some ⟨X4.heap.size, 0, none⟩) 1 1 [.int .u8 (e.toNat : Int)] rfl rfl (fun h => by cases h) (quo_news (heap_alloc_new X4 _) rfl) (by simp [Value.oneCell']) (by unfold maxLen; omega) (by omega) hSz.out ?_; intro v5 w5 hown5 hb5; obtain ⟨A5, c5, rfl, HO5, HL5⟩ := quo_step (x := [e]) hln.out rfl rfl hown5; have HB5 := Lib.hid hb5; clear hown5 hb5)
                                | fail)
                              have HQ : QR w g s R (acc ++ [e]) (none) A5 (n + 1) c5 w5 := ⟨(HR4.out.kept HR4.out.lt ((Below.refl _ _).alloc (Nat.le_refl _) _)).kept hlt.out HB5.out, HO5.out, ((HK4.out.alloc _).belowB HB5.out (Nat.le_refl _)), HL5.out, by have h1 := hft.out; rw [List.length_append]; simp only [List.length_cons, List.length_nil] at h1 ⊢; omega, (fun l e => by cases e), said_none hsd.out (by show rdB _ = _; rw [rdB_sign, HUN.out]; rfl)⟩
                              exact ⟨⟨_, _, _, _, _, rfl, HQ⟩, HQ.less hme.out (by exact Nat.succ_pos _)⟩
                · have a92 := u8_int (n := 92) (by rfl) hc92
                  have b92 : ((c.toNat : Int) == 92) = false := byte_eqF (d := 92) hc92
                  go_upto_region 11 with (fail)
                  go_quiet (fail)
                  have HB3 : Hid (RfSt (X1.drewN nq) g s (some t)) := ⟨k1, hk1s, HDR1.out, HB1.out⟩
                  have HO3 : Hid ((X1.drewN nq).ownsRow w.heap.size 5 1 (.slice A n c0) n (Lib.byteCells acc)) := HO1.out
                  have HK3 : Hid (Kept g w (X1.drewN nq)) := HK1.out.drewN nq
                  clear p0 p1 f1 p2 f2
                  generalize X1.drewN nq = X3 at *
                  have hRow := Lib.hid (HO3.out.alloc (.cells #[.int .u8 (c.toNat : Int)] 5))
                  have hSz : Hid (w.heap.size ≤ (X3.alloc (.cells #[.int .u8 (c.toNat : Int)] 5)).heap.size) := by have h1 := HK3.out.size; rw [Hid, World.size_alloc]; omega
                  have hsm : acc.length ≤ 1048577 := HI.out.small
                  have hln := Lib.hid HI.out.len
                  have hn1 : n ≤ 1048577 := by rw [hln.out]; exact hsm
                  have hsd := Lib.hid HI.out.said
                  have hft := Lib.hid (HI.out.fit _ rfl)
                  clear HI
                  go_wp2_with (first
                    | (at_builtin; refine append_any rfl (.tmp 102) (.tmp 104) 41 rfl w.heap.size 5 i5 (.int .u8 0) 1 Tryd.underlying41 I5.out Z5.out S5.out Y5.out rfl (.slice A n c0) n (Lib.byteCells acc) rfl hRow.out (some ⟨X3.heap.size, 0, none⟩) 1 1 [.int .u8 (c.toNat : Int)] rfl rfl (fun h => by cases h) (quo_news (heap_alloc_new X3 _) rfl) (by simp [Value.oneCell']) (by unfold maxLen; omega) (by omega) hSz.out ?_; intro v5 w5 hown5 hb5; obtain ⟨A5, c5, rfl, HO5, HL5⟩ := quo_step (x := [c]) hln.out rfl rfl hown5; have HB5 := Lib.hid hb5; clear hown5 hb5)
                    | fail)
                  have HQ : QR w g s R (acc ++ [c]) (some t) A5 (n + 1) c5 w5 := ⟨(HB3.out.kept HB3.out.lt ((Below.refl _ _).alloc (Nat.le_refl _) _)).kept hlt.out HB5.out, HO5.out, ((HK3.out.alloc _).belowB HB5.out (Nat.le_refl _)), HL5.out, by have h1 := hft.out; rw [List.length_append]; simp only [List.length_cons, List.length_nil] at h1 ⊢; omega, (fun l e => by injection e with e; have h1 := hft.out; rw [← e, List.length_append]; simp only [List.length_cons, List.length_nil] at h1 ⊢; omega), said_step hsd.out (rdB_plain c t hc34 hc92 (by simp [hc10, hc13, hc9]))⟩
                  exact ⟨⟨_, _, _, _, _, rfl, HQ⟩, HQ.less hme.out (by show _ < _; simp only [lenR, List.length_cons]; omega)⟩
end Go.Proofs.YtbldognffppeiaaDoor
