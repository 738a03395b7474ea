/- The reader's each over outputs and over pairs, walked. -/
import Derived.Test.YtbldognffppeiaaDoorAtElem
namespace Go.Proofs.YtbldognffppeiaaDoor
open Go.RowKit Quo
set_option linter.unusedSimpArgs false
set_option linter.unusedVariables false
theorem outD_head (x : ByteArray × ByteArray × ByteArray) : ∃ c t, outD x = c :: t ∧ c ≠ 93 := ⟨40, _, rfl, by decide⟩
theorem envD_head (x : ByteArray × ByteArray) : ∃ c t, envD x = c :: t ∧ c ≠ 93 := ⟨40, _, rfl, by decide⟩
theorem outsCells_snoc (l : List (ByteArray × ByteArray × ByteArray)) (q : ByteArray × ByteArray × ByteArray) : outsCells (l ++ [q]) = outsCells l ++ [.string q.1, .string q.2.1, .string q.2.2] := by simp [outsCells]
theorem pairsCells_snoc (l : List (ByteArray × ByteArray)) (q : ByteArray × ByteArray) : pairsCells (l ++ [q]) = pairsCells l ++ [.string q.1, .string q.2] := by simp [pairsCells]
/-- The loop's state. -/
structure EInvO (w : World) (g : Nat) (R : Option (List (ByteArray × ByteArray × ByteArray) × List UInt8)) (acc : List (ByteArray × ByteArray × ByteArray)) (sr : Option (List UInt8)) (A : Option Addr) (n c : Nat) (W : World) : Prop where
  rd : RdSt W g sr
  kept : Kept g w W
  own : W.ownsRow w.heap.size 49 3 (.slice A n c) n (outsCells acc)
  len : n = acc.length
  small : acc.length ≤ 1048577
  fit : ∀ l, sr = some l → acc.length + l.length ≤ 1048576
  said : EachSays rdOut R acc sr
set_option maxHeartbeats 4000000 in
set_option maxRecDepth 1000000 in
theorem eachO_any (g : Nat) (st : Option (List UInt8)) (w : World) (hg : 1 < g) (hT : Tabs w) (hl : ∀ l, st = some l → l.length ≤ 1048576) (h : RdSt w g st) : Calls Tryd.prog 58 #[.pointer (some ⟨g, 0, none⟩), .func (.func 59) #[] #[]] w fun e w' => ∃ A n c, e = .returned (.slice A n c) ∧ RdSt w' g ((st.bind (eachR rdOut)).map (·.2)) ∧ Kept g w w' ∧ (∀ p, st.bind (eachR rdOut) = some p → n = p.1.length ∧ w'.ownsRow w.heap.size 49 3 (.slice A n c) n (outsCells p.1)) := by
  have HC := Lib.hid (take_any [91] g st w h)
  have HT := Lib.hid hT
  have hlt := Lib.hid h.lt
  obtain ⟨s1, hs1⟩ : ∃ s1, Hid (st.bind (eat [91]) = s1) := ⟨_, rfl⟩
  obtain ⟨R, hR⟩ : ∃ R, Hid (st.bind (eachR rdOut) = R) := ⟨_, rfl⟩
  have hR1 : Hid (EachSays rdOut R [] s1 ∧ ∀ l, s1 = some l → l.length ≤ 1048576) := by
    rw [Hid, ← hR.out, ← hs1.out]
    cases st with
    | none => exact ⟨rfl, fun l e => by cases e⟩
    | some l0 =>
      show EachSays rdOut (eachR rdOut l0) [] (eat [91] l0) ∧ ∀ l, eat [91] l0 = some l → l.length ≤ 1048576
      unfold eachR
      cases he : eat [91] l0 with
      | none => exact ⟨rfl, fun l e => by cases e⟩
      | some l1 =>
        refine ⟨EachSays.start rfl, fun l e => ?_⟩
        injection e with e
        have := hl l0 rfl
        rw [eat_less he, e] at this
        omega
  rw [hs1.out] at HC
  rw [hR.out]
  clear h hT hl hR hs1
  go_enter Tryd.func58, Tryd.ntmps58
  go_wp2_with (first
    | (go_at_call 57; refine HC.out.mono ?_; rintro e w1 ⟨rfl, hr, hk⟩; have HR1 := Lib.hid hr; have HK1 := Lib.hid hk; clear hr hk)
    | fail)
  have HI : Hid (EInvO w g R [] s1 none 0 0 w1) := ⟨HR1.out, HK1.out, World.ownsRow_nil _ _ _ _, rfl, Nat.zero_le _, fun l e => by have := hR1.out.2 l e; simpa using this, hR1.out.1⟩
  clear HR1 HK1 HC hR1
  obtain ⟨i49, hi0, hz0, hz1, hz2⟩ := info_parts info49'
  have Z9 := Lib.hid hz0
  have S9 := Lib.hid hz1
  have Y9 := Lib.hid hz2
  have I9 := Lib.hid hi0
  clear hi0 hz0 hz1 hz2
  go_loopw [5] (fun t5 wr => ∃ (acc : List (ByteArray × ByteArray × ByteArray)) (sr : Option (List UInt8)) (A : Option Addr) (n c : Nat), t5 = .slice A n c ∧ Hid (EInvO w g R acc sr A n c wr)) (fun _ wr => mRd wr g)
  case atStart => exact ⟨[], s1, none, 0, 0, rfl, HI⟩
  case round =>
    clear HI
    obtain ⟨acc, sr, A, n, c, rfl, HI⟩ := hrel
    cases sr with
    | none =>
      obtain ⟨s, ne, hbk0⟩ := HI.out.rd
      have hbk := Lib.hid hbk0
      clear hbk0
      have p1 : wr.cell? ⟨g, 1, none⟩ = some (.iface 87 (.agg #[.int .i64 (ne : Int)])) := hbk.out.cell 1
      have HE := Lib.hid (take_any [93] g none wr HI.out.rd)
      go_wp2_with (first
        | (go_at_call 57; refine HE.out.mono ?_; rintro e w2 ⟨rfl, hr, hk⟩; have HR2 := Lib.hid hr; have HK2 := Lib.hid hk; clear hr hk)
        | fail)
      go_ret
      have e0 : R = none := HI.out.said
      rw [e0]
      exact ⟨_, _, _, rfl, HR2.out, HI.out.kept.trans HK2.out, fun p e => by cases e⟩
    | some l =>
      have hme : Hid (mRd wr g = l.length + 1) := HI.out.rd.measure
      have hbk : Hid (Blk wr g 84 #[.string (tx l), .nilIface]) := HI.out.rd
      have p0 : wr.cell? ⟨g, 0, none⟩ = some (.string (tx l)) := hbk.out.cell 0
      have p1 : wr.cell? ⟨g, 1, none⟩ = some .nilIface := hbk.out.cell 1
      have HPf := Lib.hid (Tryd.strings_HasPrefix (tx l) ⟨#[93]⟩ wr)
      have hpf : Hid (Lib.hasPrefix (tx l).data.toList (⟨#[93]⟩ : ByteArray).data.toList = [93].isPrefixOf l) := rfl
      obtain ⟨s, hs⟩ : ∃ s, Hid (tx l = s) := ⟨_, rfl⟩
      rw [hs.out] at p0 HPf hpf
      cases hp : [93].isPrefixOf l with
      | true =>
        have hpt := hpf.out.trans hp
        have HE := Lib.hid (take_any [93] g (some l) wr HI.out.rd)
        obtain ⟨r, hr0⟩ := List.isPrefixOf_iff_prefix.1 hp
        have hr1 := Lib.hid hr0
        clear hp hr0
        go_wp2_with (first
          | (go_at_call 74; refine HPf.out.mono ?_; rintro e w2 ⟨rfl, hw⟩; have hw := hw.symm; subst hw)
          | (go_at_call 57; refine HE.out.mono ?_; rintro e w2 ⟨rfl, hr, hk⟩; have HR2 := Lib.hid hr; have HK2 := Lib.hid hk; clear hr hk)
          | fail)
        go_ret
        have hsd := HI.out.said
        rw [← hr1.out] at hsd
        rw [hsd.ends]
        refine ⟨_, _, _, rfl, ?_, HI.out.kept.trans HK2.out, fun p e => ?_⟩
        · have h4 := HR2.out
          change RdSt _ g (eat [93] l) at h4
          rw [(eat_iff [93] l r).2 hr1.out.symm] at h4
          exact h4
        · injection e with e
          rw [← e]
          exact ⟨HI.out.len, own_keptK HI.out.own hlt.out HK2.out⟩
      | false =>
        have hpt := hpf.out.trans hp
        by_cases hn : n = 0
        · have d1 : ¬ (0 : Int) < (n : Int) := by omega
          have hac : acc = [] := List.eq_nil_of_length_eq_zero (by have := HI.out.len; omega)
          obtain ⟨l2, hl2'⟩ : ∃ l2, Hid (l = l2) := ⟨l, rfl⟩
          have hsep : Hid (sepR acc l = some l2) := by rw [Hid, ← hl2'.out, hac]; rfl
          clear hn hac
          have HRs : Hid (RdSt wr g (some l2)) := by rw [← hl2'.out]; exact HI.out.rd
          have HKs : Hid (Kept g wr wr) := Kept.refl g wr
          go_upto_region 6 with (first
            | (go_at_call 74; refine HPf.out.mono ?_; rintro e w2 ⟨rfl, hw⟩; have hw := hw.symm; subst hw)
            | fail)
          clear p0 p1
          have hbk2 : Hid (Blk wr g 84 #[.string (tx l2), .nilIface]) := HRs.out
          have k1 : wr.cell? ⟨g, 1, none⟩ = some .nilIface := hbk2.out.cell 1
          have HTW : Hid (Tabs wr) := tabs_kept HT.out hg (HI.out.kept.trans HKs.out)
          have hl2 : Hid (l2.length ≤ 1048576) := by have h1 := HI.out.fit l rfl; have h2 := sep_len hsep.out; rw [Hid]; omega
          have HQ := Lib.hid (output_any g (some l2) wr hg HTW.out (fun l e => by injection e with e; rw [← e]; exact hl2.out) HRs.out)
          have HRW := Lib.hid (own_keptK HI.out.own hlt.out HKs.out)
          have hn1 : n ≤ 1048576 := by have h1 := HI.out.fit l rfl; have h2 := HI.out.len; omega
          have HKW := Lib.hid (HI.out.kept.trans HKs.out)
          have hsm := Lib.hid HI.out.small
          have hft := Lib.hid (HI.out.fit l rfl)
          have hsd := Lib.hid HI.out.said
          have hln := Lib.hid HI.out.len
          clear HI
          go_wp2_with (first
            | (go_at_call 59; refine HQ.out.mono ?_; rintro e w3 ⟨q, rfl, hr3, hq3, hk3⟩; have HR3 := Lib.hid hr3; have HQ3 := Lib.hid hq3; have HK3 := Lib.hid hk3; have HRow := Lib.hid ((own_keptK HRW.out hlt.out hk3).alloc (.cells #[.string q.1, .string q.2.1, .string q.2.2] 49)); have HB3 : Hid (w.heap.size ≤ (w3.alloc (.cells #[.string q.1, .string q.2.1, .string q.2.2] 49)).heap.size) := (by have h1 := (HKW.out.trans hk3).size; rw [Hid, World.size_alloc]; omega); clear hr3 hq3 hk3)
            | (at_builtin; refine wpList_append_lies _ rfl (.tmp 31) (.tmp 35) 24 rfl w.heap.size 49 i49 _ 3 48 Tryd.underlying24 I9.out Z9.out S9.out Y9.out rfl (by omega) (.slice A n c) n (outsCells acc) rfl HRow.out ⟨w3.heap.size, 0, none⟩ 1 1 [.string q.1, .string q.2.1, .string q.2.2] rfl rfl (World.news_of_block (cs := #[.string q.1, .string q.2.1, .string q.2.2]) (t := 49) (fr := (0, 0)) (heap_alloc_new w3 _)) (by simp [Value.oneCell']) (by omega) (by unfold maxLen; omega) (by omega) HB3.out (w3.heap.size + 1) (by simp) ?_; intro gg cap w4 hown4 hgrow hat hltg; have HO4 := Lib.hid hown4; have HB4 := Lib.hid (below_of_own HRow.out hgrow HB3.out); clear hown4 hgrow hat hltg)
            | fail)
          have HK4 : Hid (Kept g w w4) := ((HKW.out.trans HK3.out).alloc _).belowB HB4.out (Nat.le_refl _)
          have HR4 : Hid (RdSt w4 g (((some l2).bind rdOut).map (·.2))) := (HR3.out.kept HR3.out.lt ((Below.refl _ _).alloc (Nat.le_refl _) _)).kept hlt.out HB4.out
          have HO5 : Hid (w4.ownsRow w.heap.size 49 3 (.slice (some ⟨gg, 0, none⟩) (n + 1) cap) (n + 1) (outsCells (acc ++ [q]))) := by
            rw [Hid, outsCells_snoc]
            exact HO4.out
          cases hrd : rdOut l2 with
          | none =>
            have HQ9 : EInvO w g R (acc ++ [q]) none (some ⟨gg, 0, none⟩) (n + 1) cap w4 := by
              refine ⟨?_, HK4.out, HO5.out, by rw [List.length_append, hln.out]; rfl, by have := hft.out; rw [List.length_append]; simp only [List.length_cons, List.length_nil]; omega, (fun l e => by cases e), hsd.out.noElem hp hsep.out hrd⟩
              have h4 := HR4.out
              change RdSt w4 g (Option.map _ (rdOut l2)) at h4
              rw [hrd] at h4
              exact h4
            refine ⟨⟨_, _, _, _, _, rfl, HQ9⟩, ?_⟩
            rw [hme.out, HQ9.rd.measure]
            exact Nat.succ_pos _
          | some p =>
            obtain ⟨x, r⟩ := p
            have hx : q = x := HQ3.out (x, r) hrd
            have hmo := EachSays.more rdOut_reads outD_head hsd.out hp hsep.out hrd
            have HQ9 : EInvO w g R (acc ++ [q]) (some r) (some ⟨gg, 0, none⟩) (n + 1) cap w4 := by
              refine ⟨?_, HK4.out, HO5.out, by rw [List.length_append, hln.out]; rfl, by have := hft.out; rw [List.length_append]; simp only [List.length_cons, List.length_nil]; omega, (fun l e => ?_), by rw [hx]; exact hmo.1⟩
              · have h4 := HR4.out
                change RdSt w4 g (Option.map _ (rdOut l2)) at h4
                rw [hrd] at h4
                exact h4
              · injection e with e
                rw [← e, List.length_append]
                have h1 := hft.out
                have h2 := hmo.2
                simp only [List.length_cons, List.length_nil]
                omega
            refine ⟨⟨_, _, _, _, _, rfl, HQ9⟩, ?_⟩
            rw [hme.out, HQ9.rd.measure]
            exact Nat.succ_lt_succ hmo.2
        · have d1 : (0 : Int) < (n : Int) := by omega
          have HS := Lib.hid (take_any [44] g (some l) wr HI.out.rd)
          have hsp : Hid (sepR acc l = eat [44] l) := sepR_cons (by have := HI.out.len; omega) l
          go_upto_region 6 with (first
            | (go_at_call 74; refine HPf.out.mono ?_; rintro e w2 ⟨rfl, hw⟩; have hw := hw.symm; subst hw)
            | (go_at_call 57; refine HS.out.mono ?_; rintro e w2 ⟨rfl, hr, hk⟩; have HR2 : Hid (RdSt w2 g (eat [44] l)) := hr; have HKs := Lib.hid hk; clear hr hk)
            | fail)
          clear p0 p1
          cases he : eat [44] l with
          | none =>
            rw [he] at HR2
            obtain ⟨s2, ne, hbk0⟩ := HR2.out
            have hbk2 := Lib.hid hbk0
            clear hbk0
            have k1 : w2.cell? ⟨g, 1, none⟩ = some (.iface 87 (.agg #[.int .i64 (ne : Int)])) := hbk2.out.cell 1
            have hnone := Lib.hid (HI.out.said.noSep hp (hsp.out.trans he))
            have hsm := Lib.hid HI.out.small
            clear he hp
            go_wp2_with fail
            have HQ9 : EInvO w g R acc none A n c w2 := ⟨HR2.out, HI.out.kept.trans HKs.out, own_keptK HI.out.own hlt.out HKs.out, HI.out.len, HI.out.small, (fun l e => by cases e), hnone.out⟩
            refine ⟨⟨_, _, _, _, _, rfl, HQ9⟩, ?_⟩
            rw [hme.out, HQ9.rd.measure]
            exact Nat.succ_pos _
          | some l2 =>
            rw [he] at HR2
            have hsep : Hid (sepR acc l = some l2) := hsp.out.trans he
            clear he
            have hbk2 : Hid (Blk w2 g 84 #[.string (tx l2), .nilIface]) := HR2.out
            have k1 : w2.cell? ⟨g, 1, none⟩ = some .nilIface := hbk2.out.cell 1
            have HTW : Hid (Tabs w2) := tabs_kept HT.out hg (HI.out.kept.trans HKs.out)
            have hl2 : Hid (l2.length ≤ 1048576) := by have h1 := HI.out.fit l rfl; have h2 := sep_len hsep.out; rw [Hid]; omega
            have HQ := Lib.hid (output_any g (some l2) w2 hg HTW.out (fun l e => by injection e with e; rw [← e]; exact hl2.out) HR2.out)
            have HRW := Lib.hid (own_keptK HI.out.own hlt.out HKs.out)
            have hn1 : n ≤ 1048576 := by have h1 := HI.out.fit l rfl; have h2 := HI.out.len; omega
            have HKW := Lib.hid (HI.out.kept.trans HKs.out)
            have hsm := Lib.hid HI.out.small
            have hft := Lib.hid (HI.out.fit l rfl)
            have hsd := Lib.hid HI.out.said
            have hln := Lib.hid HI.out.len
            clear HI
            go_wp2_with (first
              | (go_at_call 59; refine HQ.out.mono ?_; rintro e w3 ⟨q, rfl, hr3, hq3, hk3⟩; have HR3 := Lib.hid hr3; have HQ3 := Lib.hid hq3; have HK3 := Lib.hid hk3; have HRow := Lib.hid ((own_keptK HRW.out hlt.out hk3).alloc (.cells #[.string q.1, .string q.2.1, .string q.2.2] 49)); have HB3 : Hid (w.heap.size ≤ (w3.alloc (.cells #[.string q.1, .string q.2.1, .string q.2.2] 49)).heap.size) := (by have h1 := (HKW.out.trans hk3).size; rw [Hid, World.size_alloc]; omega); clear hr3 hq3 hk3)
              | (at_builtin; refine wpList_append_lies _ rfl (.tmp 31) (.tmp 35) 24 rfl w.heap.size 49 i49 _ 3 48 Tryd.underlying24 I9.out Z9.out S9.out Y9.out rfl (by omega) (.slice A n c) n (outsCells acc) rfl HRow.out ⟨w3.heap.size, 0, none⟩ 1 1 [.string q.1, .string q.2.1, .string q.2.2] rfl rfl (World.news_of_block (cs := #[.string q.1, .string q.2.1, .string q.2.2]) (t := 49) (fr := (0, 0)) (heap_alloc_new w3 _)) (by simp [Value.oneCell']) (by omega) (by unfold maxLen; omega) (by omega) HB3.out (w3.heap.size + 1) (by simp) ?_; intro gg cap w4 hown4 hgrow hat hltg; have HO4 := Lib.hid hown4; have HB4 := Lib.hid (below_of_own HRow.out hgrow HB3.out); clear hown4 hgrow hat hltg)
              | fail)
            have HK4 : Hid (Kept g w w4) := ((HKW.out.trans HK3.out).alloc _).belowB HB4.out (Nat.le_refl _)
            have HR4 : Hid (RdSt w4 g (((some l2).bind rdOut).map (·.2))) := (HR3.out.kept HR3.out.lt ((Below.refl _ _).alloc (Nat.le_refl _) _)).kept hlt.out HB4.out
            have HO5 : Hid (w4.ownsRow w.heap.size 49 3 (.slice (some ⟨gg, 0, none⟩) (n + 1) cap) (n + 1) (outsCells (acc ++ [q]))) := by
              rw [Hid, outsCells_snoc]
              exact HO4.out
            cases hrd : rdOut l2 with
            | none =>
              have HQ9 : EInvO w g R (acc ++ [q]) none (some ⟨gg, 0, none⟩) (n + 1) cap w4 := by
                refine ⟨?_, HK4.out, HO5.out, by rw [List.length_append, hln.out]; rfl, by have := hft.out; rw [List.length_append]; simp only [List.length_cons, List.length_nil]; omega, (fun l e => by cases e), hsd.out.noElem hp hsep.out hrd⟩
                have h4 := HR4.out
                change RdSt w4 g (Option.map _ (rdOut l2)) at h4
                rw [hrd] at h4
                exact h4
              refine ⟨⟨_, _, _, _, _, rfl, HQ9⟩, ?_⟩
              rw [hme.out, HQ9.rd.measure]
              exact Nat.succ_pos _
            | some p =>
              obtain ⟨x, r⟩ := p
              have hx : q = x := HQ3.out (x, r) hrd
              have hmo := EachSays.more rdOut_reads outD_head hsd.out hp hsep.out hrd
              have HQ9 : EInvO w g R (acc ++ [q]) (some r) (some ⟨gg, 0, none⟩) (n + 1) cap w4 := by
                refine ⟨?_, HK4.out, HO5.out, by rw [List.length_append, hln.out]; rfl, by have := hft.out; rw [List.length_append]; simp only [List.length_cons, List.length_nil]; omega, (fun l e => ?_), by rw [hx]; exact hmo.1⟩
                · have h4 := HR4.out
                  change RdSt w4 g (Option.map _ (rdOut l2)) at h4
                  rw [hrd] at h4
                  exact h4
                · injection e with e
                  rw [← e, List.length_append]
                  have h1 := hft.out
                  have h2 := hmo.2
                  simp only [List.length_cons, List.length_nil]
                  omega
              refine ⟨⟨_, _, _, _, _, rfl, HQ9⟩, ?_⟩
              rw [hme.out, HQ9.rd.measure]
              exact Nat.succ_lt_succ hmo.2
/-- The loop's state. -/
structure EInvP (w : World) (g : Nat) (R : Option (List (ByteArray × ByteArray) × List UInt8)) (acc : List (ByteArray × ByteArray)) (sr : Option (List UInt8)) (A : Option Addr) (n c : Nat) (W : World) : Prop where
  rd : RdSt W g sr
  kept : Kept g w W
  own : W.ownsRow w.heap.size 70 2 (.slice A n c) n (pairsCells acc)
  len : n = acc.length
  small : acc.length ≤ 1048577
  fit : ∀ l, sr = some l → acc.length + l.length ≤ 1048576
  said : EachSays rdEnv R acc sr
set_option maxHeartbeats 4000000 in
set_option maxRecDepth 1000000 in
theorem eachP_any (g : Nat) (st : Option (List UInt8)) (w : World) (hg : 1 < g) (hT : Tabs w) (hl : ∀ l, st = some l → l.length ≤ 1048576) (h : RdSt w g st) : Calls Tryd.prog 64 #[.pointer (some ⟨g, 0, none⟩), .func (.func 65) #[] #[]] w fun e w' => ∃ A n c, e = .returned (.slice A n c) ∧ RdSt w' g ((st.bind (eachR rdEnv)).map (·.2)) ∧ Kept g w w' ∧ (∀ p, st.bind (eachR rdEnv) = some p → n = p.1.length ∧ w'.ownsRow w.heap.size 70 2 (.slice A n c) n (pairsCells p.1)) := by
  have HC := Lib.hid (take_any [91] g st w h)
  have HT := Lib.hid hT
  have hlt := Lib.hid h.lt
  obtain ⟨s1, hs1⟩ : ∃ s1, Hid (st.bind (eat [91]) = s1) := ⟨_, rfl⟩
  obtain ⟨R, hR⟩ : ∃ R, Hid (st.bind (eachR rdEnv) = R) := ⟨_, rfl⟩
  have hR1 : Hid (EachSays rdEnv R [] s1 ∧ ∀ l, s1 = some l → l.length ≤ 1048576) := by
    rw [Hid, ← hR.out, ← hs1.out]
    cases st with
    | none => exact ⟨rfl, fun l e => by cases e⟩
    | some l0 =>
      show EachSays rdEnv (eachR rdEnv l0) [] (eat [91] l0) ∧ ∀ l, eat [91] l0 = some l → l.length ≤ 1048576
      unfold eachR
      cases he : eat [91] l0 with
      | none => exact ⟨rfl, fun l e => by cases e⟩
      | some l1 =>
        refine ⟨EachSays.start rfl, fun l e => ?_⟩
        injection e with e
        have := hl l0 rfl
        rw [eat_less he, e] at this
        omega
  rw [hs1.out] at HC
  rw [hR.out]
  clear h hT hl hR hs1
  go_enter Tryd.func64, Tryd.ntmps64
  go_wp2_with (first
    | (go_at_call 57; refine HC.out.mono ?_; rintro e w1 ⟨rfl, hr, hk⟩; have HR1 := Lib.hid hr; have HK1 := Lib.hid hk; clear hr hk)
    | fail)
  have HI : Hid (EInvP w g R [] s1 none 0 0 w1) := ⟨HR1.out, HK1.out, World.ownsRow_nil _ _ _ _, rfl, Nat.zero_le _, fun l e => by have := hR1.out.2 l e; simpa using this, hR1.out.1⟩
  clear HR1 HK1 HC hR1
  obtain ⟨i70, hi0, hz0, hz1, hz2⟩ := info_parts info70'
  have Z9 := Lib.hid hz0
  have S9 := Lib.hid hz1
  have Y9 := Lib.hid hz2
  have I9 := Lib.hid hi0
  clear hi0 hz0 hz1 hz2
  go_loopw [5] (fun t5 wr => ∃ (acc : List (ByteArray × ByteArray)) (sr : Option (List UInt8)) (A : Option Addr) (n c : Nat), t5 = .slice A n c ∧ Hid (EInvP w g R acc sr A n c wr)) (fun _ wr => mRd wr g)
  case atStart => exact ⟨[], s1, none, 0, 0, rfl, HI⟩
  case round =>
    clear HI
    obtain ⟨acc, sr, A, n, c, rfl, HI⟩ := hrel
    cases sr with
    | none =>
      obtain ⟨s, ne, hbk0⟩ := HI.out.rd
      have hbk := Lib.hid hbk0
      clear hbk0
      have p1 : wr.cell? ⟨g, 1, none⟩ = some (.iface 87 (.agg #[.int .i64 (ne : Int)])) := hbk.out.cell 1
      have HE := Lib.hid (take_any [93] g none wr HI.out.rd)
      go_wp2_with (first
        | (go_at_call 57; refine HE.out.mono ?_; rintro e w2 ⟨rfl, hr, hk⟩; have HR2 := Lib.hid hr; have HK2 := Lib.hid hk; clear hr hk)
        | fail)
      go_ret
      have e0 : R = none := HI.out.said
      rw [e0]
      exact ⟨_, _, _, rfl, HR2.out, HI.out.kept.trans HK2.out, fun p e => by cases e⟩
    | some l =>
      have hme : Hid (mRd wr g = l.length + 1) := HI.out.rd.measure
      have hbk : Hid (Blk wr g 84 #[.string (tx l), .nilIface]) := HI.out.rd
      have p0 : wr.cell? ⟨g, 0, none⟩ = some (.string (tx l)) := hbk.out.cell 0
      have p1 : wr.cell? ⟨g, 1, none⟩ = some .nilIface := hbk.out.cell 1
      have HPf := Lib.hid (Tryd.strings_HasPrefix (tx l) ⟨#[93]⟩ wr)
      have hpf : Hid (Lib.hasPrefix (tx l).data.toList (⟨#[93]⟩ : ByteArray).data.toList = [93].isPrefixOf l) := rfl
      obtain ⟨s, hs⟩ : ∃ s, Hid (tx l = s) := ⟨_, rfl⟩
      rw [hs.out] at p0 HPf hpf
      cases hp : [93].isPrefixOf l with
      | true =>
        have hpt := hpf.out.trans hp
        have HE := Lib.hid (take_any [93] g (some l) wr HI.out.rd)
        obtain ⟨r, hr0⟩ := List.isPrefixOf_iff_prefix.1 hp
        have hr1 := Lib.hid hr0
        clear hp hr0
        go_wp2_with (first
          | (go_at_call 74; refine HPf.out.mono ?_; rintro e w2 ⟨rfl, hw⟩; have hw := hw.symm; subst hw)
          | (go_at_call 57; refine HE.out.mono ?_; rintro e w2 ⟨rfl, hr, hk⟩; have HR2 := Lib.hid hr; have HK2 := Lib.hid hk; clear hr hk)
          | fail)
        go_ret
        have hsd := HI.out.said
        rw [← hr1.out] at hsd
        rw [hsd.ends]
        refine ⟨_, _, _, rfl, ?_, HI.out.kept.trans HK2.out, fun p e => ?_⟩
        · have h4 := HR2.out
          change RdSt _ g (eat [93] l) at h4
          rw [(eat_iff [93] l r).2 hr1.out.symm] at h4
          exact h4
        · injection e with e
          rw [← e]
          exact ⟨HI.out.len, own_keptK HI.out.own hlt.out HK2.out⟩
      | false =>
        have hpt := hpf.out.trans hp
        by_cases hn : n = 0
        · have d1 : ¬ (0 : Int) < (n : Int) := by omega
          have hac : acc = [] := List.eq_nil_of_length_eq_zero (by have := HI.out.len; omega)
          obtain ⟨l2, hl2'⟩ : ∃ l2, Hid (l = l2) := ⟨l, rfl⟩
          have hsep : Hid (sepR acc l = some l2) := by rw [Hid, ← hl2'.out, hac]; rfl
          clear hn hac
          have HRs : Hid (RdSt wr g (some l2)) := by rw [← hl2'.out]; exact HI.out.rd
          have HKs : Hid (Kept g wr wr) := Kept.refl g wr
          go_upto_region 6 with (first
            | (go_at_call 74; refine HPf.out.mono ?_; rintro e w2 ⟨rfl, hw⟩; have hw := hw.symm; subst hw)
            | fail)
          clear p0 p1
          have hbk2 : Hid (Blk wr g 84 #[.string (tx l2), .nilIface]) := HRs.out
          have k1 : wr.cell? ⟨g, 1, none⟩ = some .nilIface := hbk2.out.cell 1
          have HTW : Hid (Tabs wr) := tabs_kept HT.out hg (HI.out.kept.trans HKs.out)
          have hl2 : Hid (l2.length ≤ 1048576) := by have h1 := HI.out.fit l rfl; have h2 := sep_len hsep.out; rw [Hid]; omega
          have HQ := Lib.hid (pair_any g (some l2) wr hg HTW.out (fun l e => by injection e with e; rw [← e]; exact hl2.out) HRs.out)
          have HRW := Lib.hid (own_keptK HI.out.own hlt.out HKs.out)
          have hn1 : n ≤ 1048576 := by have h1 := HI.out.fit l rfl; have h2 := HI.out.len; omega
          have HKW := Lib.hid (HI.out.kept.trans HKs.out)
          have hsm := Lib.hid HI.out.small
          have hft := Lib.hid (HI.out.fit l rfl)
          have hsd := Lib.hid HI.out.said
          have hln := Lib.hid HI.out.len
          clear HI
          go_wp2_with (first
            | (go_at_call 65; refine HQ.out.mono ?_; rintro e w3 ⟨q, rfl, hr3, hq3, hk3⟩; have HR3 := Lib.hid hr3; have HQ3 := Lib.hid hq3; have HK3 := Lib.hid hk3; have HRow := Lib.hid ((own_keptK HRW.out hlt.out hk3).alloc (.cells #[.string q.1, .string q.2] 70)); have HB3 : Hid (w.heap.size ≤ (w3.alloc (.cells #[.string q.1, .string q.2] 70)).heap.size) := (by have h1 := (HKW.out.trans hk3).size; rw [Hid, World.size_alloc]; omega); clear hr3 hq3 hk3)
            | (at_builtin; refine wpList_append_lies _ rfl (.tmp 31) (.tmp 35) 27 rfl w.heap.size 70 i70 _ 2 32 Tryd.underlying27 I9.out Z9.out S9.out Y9.out rfl (by omega) (.slice A n c) n (pairsCells acc) rfl HRow.out ⟨w3.heap.size, 0, none⟩ 1 1 [.string q.1, .string q.2] rfl rfl (World.news_of_block (cs := #[.string q.1, .string q.2]) (t := 70) (fr := (0, 0)) (heap_alloc_new w3 _)) (by simp [Value.oneCell']) (by omega) (by unfold maxLen; omega) (by omega) HB3.out (w3.heap.size + 1) (by simp) ?_; intro gg cap w4 hown4 hgrow hat hltg; have HO4 := Lib.hid hown4; have HB4 := Lib.hid (below_of_own HRow.out hgrow HB3.out); clear hown4 hgrow hat hltg)
            | fail)
          have HK4 : Hid (Kept g w w4) := ((HKW.out.trans HK3.out).alloc _).belowB HB4.out (Nat.le_refl _)
          have HR4 : Hid (RdSt w4 g (((some l2).bind rdEnv).map (·.2))) := (HR3.out.kept HR3.out.lt ((Below.refl _ _).alloc (Nat.le_refl _) _)).kept hlt.out HB4.out
          have HO5 : Hid (w4.ownsRow w.heap.size 70 2 (.slice (some ⟨gg, 0, none⟩) (n + 1) cap) (n + 1) (pairsCells (acc ++ [q]))) := by
            rw [Hid, pairsCells_snoc]
            exact HO4.out
          cases hrd : rdEnv l2 with
          | none =>
            have HQ9 : EInvP w g R (acc ++ [q]) none (some ⟨gg, 0, none⟩) (n + 1) cap w4 := by
              refine ⟨?_, HK4.out, HO5.out, by rw [List.length_append, hln.out]; rfl, by have := hft.out; rw [List.length_append]; simp only [List.length_cons, List.length_nil]; omega, (fun l e => by cases e), hsd.out.noElem hp hsep.out hrd⟩
              have h4 := HR4.out
              change RdSt w4 g (Option.map _ (rdEnv l2)) at h4
              rw [hrd] at h4
              exact h4
            refine ⟨⟨_, _, _, _, _, rfl, HQ9⟩, ?_⟩
            rw [hme.out, HQ9.rd.measure]
            exact Nat.succ_pos _
          | some p =>
            obtain ⟨x, r⟩ := p
            have hx : q = x := HQ3.out (x, r) hrd
            have hmo := EachSays.more rdEnv_reads envD_head hsd.out hp hsep.out hrd
            have HQ9 : EInvP w g R (acc ++ [q]) (some r) (some ⟨gg, 0, none⟩) (n + 1) cap w4 := by
              refine ⟨?_, HK4.out, HO5.out, by rw [List.length_append, hln.out]; rfl, by have := hft.out; rw [List.length_append]; simp only [List.length_cons, List.length_nil]; omega, (fun l e => ?_), by rw [hx]; exact hmo.1⟩
              · have h4 := HR4.out
                change RdSt w4 g (Option.map _ (rdEnv l2)) at h4
                rw [hrd] at h4
                exact h4
              · injection e with e
                rw [← e, List.length_append]
                have h1 := hft.out
                have h2 := hmo.2
                simp only [List.length_cons, List.length_nil]
                omega
            refine ⟨⟨_, _, _, _, _, rfl, HQ9⟩, ?_⟩
            rw [hme.out, HQ9.rd.measure]
            exact Nat.succ_lt_succ hmo.2
        · have d1 : (0 : Int) < (n : Int) := by omega
          have HS := Lib.hid (take_any [44] g (some l) wr HI.out.rd)
          have hsp : Hid (sepR acc l = eat [44] l) := sepR_cons (by have := HI.out.len; omega) l
          go_upto_region 6 with (first
            | (go_at_call 74; refine HPf.out.mono ?_; rintro e w2 ⟨rfl, hw⟩; have hw := hw.symm; subst hw)
            | (go_at_call 57; refine HS.out.mono ?_; rintro e w2 ⟨rfl, hr, hk⟩; have HR2 : Hid (RdSt w2 g (eat [44] l)) := hr; have HKs := Lib.hid hk; clear hr hk)
            | fail)
          clear p0 p1
          cases he : eat [44] l with
          | none =>
            rw [he] at HR2
            obtain ⟨s2, ne, hbk0⟩ := HR2.out
            have hbk2 := Lib.hid hbk0
            clear hbk0
            have k1 : w2.cell? ⟨g, 1, none⟩ = some (.iface 87 (.agg #[.int .i64 (ne : Int)])) := hbk2.out.cell 1
            have hnone := Lib.hid (HI.out.said.noSep hp (hsp.out.trans he))
            have hsm := Lib.hid HI.out.small
            clear he hp
            go_wp2_with fail
            have HQ9 : EInvP w g R acc none A n c w2 := ⟨HR2.out, HI.out.kept.trans HKs.out, own_keptK HI.out.own hlt.out HKs.out, HI.out.len, HI.out.small, (fun l e => by cases e), hnone.out⟩
            refine ⟨⟨_, _, _, _, _, rfl, HQ9⟩, ?_⟩
            rw [hme.out, HQ9.rd.measure]
            exact Nat.succ_pos _
          | some l2 =>
            rw [he] at HR2
            have hsep : Hid (sepR acc l = some l2) := hsp.out.trans he
            clear he
            have hbk2 : Hid (Blk w2 g 84 #[.string (tx l2), .nilIface]) := HR2.out
            have k1 : w2.cell? ⟨g, 1, none⟩ = some .nilIface := hbk2.out.cell 1
            have HTW : Hid (Tabs w2) := tabs_kept HT.out hg (HI.out.kept.trans HKs.out)
            have hl2 : Hid (l2.length ≤ 1048576) := by have h1 := HI.out.fit l rfl; have h2 := sep_len hsep.out; rw [Hid]; omega
            have HQ := Lib.hid (pair_any g (some l2) w2 hg HTW.out (fun l e => by injection e with e; rw [← e]; exact hl2.out) HR2.out)
            have HRW := Lib.hid (own_keptK HI.out.own hlt.out HKs.out)
            have hn1 : n ≤ 1048576 := by have h1 := HI.out.fit l rfl; have h2 := HI.out.len; omega
            have HKW := Lib.hid (HI.out.kept.trans HKs.out)
            have hsm := Lib.hid HI.out.small
            have hft := Lib.hid (HI.out.fit l rfl)
            have hsd := Lib.hid HI.out.said
            have hln := Lib.hid HI.out.len
            clear HI
            go_wp2_with (first
              | (go_at_call 65; refine HQ.out.mono ?_; rintro e w3 ⟨q, rfl, hr3, hq3, hk3⟩; have HR3 := Lib.hid hr3; have HQ3 := Lib.hid hq3; have HK3 := Lib.hid hk3; have HRow := Lib.hid ((own_keptK HRW.out hlt.out hk3).alloc (.cells #[.string q.1, .string q.2] 70)); have HB3 : Hid (w.heap.size ≤ (w3.alloc (.cells #[.string q.1, .string q.2] 70)).heap.size) := (by have h1 := (HKW.out.trans hk3).size; rw [Hid, World.size_alloc]; omega); clear hr3 hq3 hk3)
              | (at_builtin; refine wpList_append_lies _ rfl (.tmp 31) (.tmp 35) 27 rfl w.heap.size 70 i70 _ 2 32 Tryd.underlying27 I9.out Z9.out S9.out Y9.out rfl (by omega) (.slice A n c) n (pairsCells acc) rfl HRow.out ⟨w3.heap.size, 0, none⟩ 1 1 [.string q.1, .string q.2] rfl rfl (World.news_of_block (cs := #[.string q.1, .string q.2]) (t := 70) (fr := (0, 0)) (heap_alloc_new w3 _)) (by simp [Value.oneCell']) (by omega) (by unfold maxLen; omega) (by omega) HB3.out (w3.heap.size + 1) (by simp) ?_; intro gg cap w4 hown4 hgrow hat hltg; have HO4 := Lib.hid hown4; have HB4 := Lib.hid (below_of_own HRow.out hgrow HB3.out); clear hown4 hgrow hat hltg)
              | fail)
            have HK4 : Hid (Kept g w w4) := ((HKW.out.trans HK3.out).alloc _).belowB HB4.out (Nat.le_refl _)
            have HR4 : Hid (RdSt w4 g (((some l2).bind rdEnv).map (·.2))) := (HR3.out.kept HR3.out.lt ((Below.refl _ _).alloc (Nat.le_refl _) _)).kept hlt.out HB4.out
            have HO5 : Hid (w4.ownsRow w.heap.size 70 2 (.slice (some ⟨gg, 0, none⟩) (n + 1) cap) (n + 1) (pairsCells (acc ++ [q]))) := by
              rw [Hid, pairsCells_snoc]
              exact HO4.out
            cases hrd : rdEnv l2 with
            | none =>
              have HQ9 : EInvP w g R (acc ++ [q]) none (some ⟨gg, 0, none⟩) (n + 1) cap w4 := by
                refine ⟨?_, HK4.out, HO5.out, by rw [List.length_append, hln.out]; rfl, by have := hft.out; rw [List.length_append]; simp only [List.length_cons, List.length_nil]; omega, (fun l e => by cases e), hsd.out.noElem hp hsep.out hrd⟩
                have h4 := HR4.out
                change RdSt w4 g (Option.map _ (rdEnv l2)) at h4
                rw [hrd] at h4
                exact h4
              refine ⟨⟨_, _, _, _, _, rfl, HQ9⟩, ?_⟩
              rw [hme.out, HQ9.rd.measure]
              exact Nat.succ_pos _
            | some p =>
              obtain ⟨x, r⟩ := p
              have hx : q = x := HQ3.out (x, r) hrd
              have hmo := EachSays.more rdEnv_reads envD_head hsd.out hp hsep.out hrd
              have HQ9 : EInvP w g R (acc ++ [q]) (some r) (some ⟨gg, 0, none⟩) (n + 1) cap w4 := by
                refine ⟨?_, HK4.out, HO5.out, by rw [List.length_append, hln.out]; rfl, by have := hft.out; rw [List.length_append]; simp only [List.length_cons, List.length_nil]; omega, (fun l e => ?_), by rw [hx]; exact hmo.1⟩
                · have h4 := HR4.out
                  change RdSt w4 g (Option.map _ (rdEnv l2)) at h4
                  rw [hrd] at h4
                  exact h4
                · injection e with e
                  rw [← e, List.length_append]
                  have h1 := hft.out
                  have h2 := hmo.2
                  simp only [List.length_cons, List.length_nil]
                  omega
              refine ⟨⟨_, _, _, _, _, rfl, HQ9⟩, ?_⟩
              rw [hme.out, HQ9.rd.measure]
              exact Nat.succ_lt_succ hmo.2
end Go.Proofs.YtbldognffppeiaaDoor
