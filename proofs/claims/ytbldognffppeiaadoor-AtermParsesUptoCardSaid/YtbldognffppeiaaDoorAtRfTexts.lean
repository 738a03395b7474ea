/- The reference's reader: texts, walked. -/
import Derived.Test.YtbldognffppeiaaDoorAtRfMore
namespace Go.Proofs.YtbldognffppeiaaDoor
open Go.RowKit Quo
set_option linter.unusedSimpArgs false
set_option linter.unusedVariables false
structure RInvS (w : World) (g : Nat) (s : ByteArray) (R : Option (List ByteArray × List UInt8)) (acc : List ByteArray) (sr : Option (List UInt8)) (A : Option Addr) (n c : Nat) (W : World) : Prop where
  rd : RfSt W g s sr
  kept : Kept g w W
  own : W.ownsRow w.heap.size 9 1 (.slice A n c) n (acc.map Value.string)
  len : n = acc.length
  small : acc.length ≤ 1048577
  fit : ∀ l, sr = some l → acc.length + l.length ≤ 1048576
  said : EachSays rdS R acc sr
/-- How a list's reader begins. -/
theorem each_begin {α : Type} {rd : List UInt8 → Option (α × List UInt8)} {st s1 : Option (List UInt8)} {R : Option (List α × List UInt8)} (hl : Lim st) (h1 : st.bind (eat [91]) = s1) (h2 : st.bind (eachR rd) = R) : EachSays rd R [] s1 ∧ ∀ l, s1 = some l → l.length ≤ 1048576 := by
  rw [← h2, ← h1]
  cases st with
  | none => exact ⟨rfl, fun l e => by cases e⟩
  | some l0 =>
    show EachSays rd (eachR rd l0) [] (eat [91] l0) ∧ ∀ l, eat [91] l0 = some l → l.length ≤ 1048576
    unfold eachR
    cases he : eat [91] l0 with
    | none => exact ⟨rfl, fun l e => by cases e⟩
    | some l1 =>
      refine ⟨EachSays.start rfl, fun l e => ?_⟩
      injection e with e
      have := hl l0 rfl
      rw [eat_less he, e] at this
      omega
set_option maxHeartbeats 4000000 in
set_option maxRecDepth 1000000 in
theorem rfTexts_any (g : Nat) (s : ByteArray) (st : Option (List UInt8)) (hs : s.size ≤ 1048576) (w : World) (h : RfSt w g s st) : Calls Tryd.prog 50 #[.pointer (some ⟨g, 0, none⟩)] w fun e w' => ∃ A n c, e = .returned (.slice A n c) ∧ RfSt w' g s ((st.bind (eachR rdS)).map (·.2)) ∧ Kept g w w' ∧ (∀ p, st.bind (eachR rdS) = some p → n = p.1.length ∧ w'.ownsRow w.heap.size 9 1 (.slice A n c) n (p.1.map Value.string)) := by
  have HC := Lib.hid (rfTake_any [91] g s st hs (by decide) w h)
  have hlt := Lib.hid h.lt
  obtain ⟨s1, hs1⟩ : ∃ s1, Hid (st.bind (eat [91]) = s1) := ⟨_, rfl⟩
  obtain ⟨R, hR⟩ : ∃ R, Hid (st.bind (eachR rdS) = R) := ⟨_, rfl⟩
  have hR1 := Lib.hid (each_begin (h.lim hs) hs1.out hR.out)
  rw [hs1.out] at HC
  rw [hR.out]
  clear h hR hs1
  go_enter Tryd.func50, Tryd.ntmps50
  go_wp2_with (first
    | (go_at_call 47; refine HC.out.mono ?_; rintro e w1 ⟨rfl, hr, hk⟩; have HR1 := Lib.hid hr; have HK1 := Lib.hid hk; clear hr hk)
    | fail)
  have HI : Hid (RInvS w g s R [] s1 none 0 0 w1) := ⟨HR1.out, HK1.out, World.ownsRow_nil _ _ _ _, rfl, Nat.zero_le _, fun l e => by have := hR1.out.2 l e; simpa using this, hR1.out.1⟩
  clear HR1 HK1 HC hR1
  obtain ⟨i9, hi0, hz0, hz1, hz2⟩ := info_parts info9'
  have Z9 := Lib.hid hz0
  have S9 := Lib.hid hz1
  have Y9 := Lib.hid hz2
  have I9 := Lib.hid hi0
  clear hi0 hz0 hz1 hz2
  go_loopw [3] (fun t3 wr => ∃ (acc : List ByteArray) (sr : Option (List UInt8)) (A : Option Addr) (n c : Nat), t3 = .slice A n c ∧ Hid (RInvS w g s R acc sr A n c wr)) (fun _ wr => mRf wr g)
  case atStart => exact ⟨[], s1, none, 0, 0, rfl, HI⟩
  case round =>
    clear HI
    obtain ⟨acc, sr, A, n, c, rfl, HI⟩ := hrel
    have hn1 : n ≤ 1048577 := by have h1 := HI.out.small; have h2 := HI.out.len; omega
    have HM := Lib.hid (rfMore_any n hn1 g s sr hs wr HI.out.rd)
    have hme : Hid (mRf wr g = lenR sr) := HI.out.rd.measure
    cases hb : moreB n sr with
    | false =>
      have hends := Lib.hid (more_ends HI.out.said HI.out.len hb)
      rw [hb] at HM
      clear hb
      go_wp2_with (first
        | (go_at_call 48; refine HM.out.mono ?_; rintro e w2 ⟨rfl, hr, hk⟩; have HR2 := Lib.hid hr; have HK2 := Lib.hid hk; clear hr hk)
        | fail)
      go_ret
      rw [hends.out]
      refine ⟨_, _, _, rfl, ?_, HI.out.kept.trans HK2.out, fun p e => ?_⟩
      · have h4 := HR2.out
        cases hms : moreS n sr with
        | none => rw [hms] at h4; exact h4
        | some l => rw [hms] at h4; exact h4
      · obtain ⟨l, _, e⟩ := Option.map_eq_some_iff.1 e
        rw [← e]
        exact ⟨HI.out.len, own_keptK HI.out.own hlt.out HK2.out⟩
    | true =>
      obtain ⟨l, l2, rfl, hp, hsep, hms⟩ := more_goes HI.out.said HI.out.len hb
      rw [hb, hms] at HM
      have HSEP := Lib.hid hsep
      clear hb hms hsep
      go_upto_region 4 with (first
        | (go_at_call 48; refine HM.out.mono ?_; rintro e w2 ⟨rfl, hr, hk⟩; have HR2 := Lib.hid hr; have HK2 := Lib.hid hk; clear hr hk)
        | fail)
      have HQ := Lib.hid (rfQuoted_any g s (some l2) hs w2 HR2.out)
      have HRW := Lib.hid (own_keptK HI.out.own hlt.out HK2.out)
      have HKW := Lib.hid (HI.out.kept.trans HK2.out)
      have hft := Lib.hid (HI.out.fit l rfl)
      have hsd := Lib.hid HI.out.said
      have hln := Lib.hid HI.out.len
      clear HI
      go_wp2_with (first
        | (go_at_call 49; refine HQ.out.mono ?_; rintro e w3 ⟨q, rfl, hr3, hq3, hk3⟩; have HR3 := Lib.hid hr3; have HQ3 := Lib.hid hq3; have HK3 := Lib.hid hk3; have HRow := Lib.hid ((own_keptK HRW.out hlt.out hk3).alloc (.cells #[.string q] 9)); have HB3 : Hid (w.heap.size ≤ (w3.alloc (.cells #[.string q] 9)).heap.size) := (by have h1 := (HKW.out.trans hk3).size; rw [Hid, World.size_alloc]; omega); clear hr3 hq3 hk3)
        | (at_builtin; refine wpList_append_lies _ rfl (.tmp 10) (.tmp 13) 26 rfl w.heap.size 9 i9 (.string ⟨#[]⟩) 1 16 Tryd.underlying26 I9.out Z9.out S9.out Y9.out rfl (by omega) (.slice A n c) n (acc.map Value.string) rfl HRow.out ⟨w3.heap.size, 0, none⟩ 1 1 [.string q] rfl rfl (World.news_of_block (cs := #[.string q]) (t := 9) (fr := (0, 0)) (heap_alloc_new w3 _)) (by simp [Value.oneCell']) (by omega) (by unfold maxLen; omega) (by omega) HB3.out (w3.heap.size + 1) (by simp) ?_; intro gg cap w4 hown4 hgrow hat hltg; have HO4 := Lib.hid hown4; have HB4 := Lib.hid (below_of_own HRow.out hgrow HB3.out); clear hown4 hgrow hat hltg)
        | fail)
      have HK4 : Hid (Kept g w w4) := ((HKW.out.trans HK3.out).alloc _).belowB HB4.out (Nat.le_refl _)
      have HR4 : Hid (RfSt w4 g s (((some l2).bind rdS).map (·.2))) := (HR3.out.kept HR3.out.lt ((Below.refl _ _).alloc (Nat.le_refl _) _)).kept hlt.out HB4.out
      have HO5 : Hid (w4.ownsRow w.heap.size 9 1 (.slice (some ⟨gg, 0, none⟩) (n + 1) cap) (n + 1) ((acc ++ [q]).map Value.string)) := by
        rw [Hid, List.map_append]
        exact HO4.out
      cases hrd : rdS l2 with
      | none =>
        have HQ9 : RInvS w g s R (acc ++ [q]) none (some ⟨gg, 0, none⟩) (n + 1) cap w4 := by
          refine ⟨?_, HK4.out, HO5.out, by rw [List.length_append, hln.out]; rfl, by have := hft.out; rw [List.length_append]; simp only [List.length_cons, List.length_nil]; omega, (fun l e => by cases e), hsd.out.noElem hp HSEP.out hrd⟩
          have h4 := HR4.out
          change RfSt w4 g s (Option.map _ (rdS l2)) at h4
          rw [hrd] at h4
          exact h4
        refine ⟨⟨_, _, _, _, _, rfl, HQ9⟩, ?_⟩
        rw [hme.out, HQ9.rd.measure]
        exact Nat.succ_pos _
      | some p =>
        obtain ⟨x, r⟩ := p
        have hx : q = x := HQ3.out (x, r) hrd
        have hmo := EachSays.more rdS_reads quoS_head hsd.out hp HSEP.out hrd
        have HQ9 : RInvS w g s R (acc ++ [q]) (some r) (some ⟨gg, 0, none⟩) (n + 1) cap w4 := by
          refine ⟨?_, HK4.out, HO5.out, by rw [List.length_append, hln.out]; rfl, by have := hft.out; rw [List.length_append]; simp only [List.length_cons, List.length_nil]; omega, (fun l e => ?_), by rw [hx]; exact hmo.1⟩
          · have h4 := HR4.out
            change RfSt w4 g s (Option.map _ (rdS l2)) at h4
            rw [hrd] at h4
            exact h4
          · injection e with e
            rw [← e, List.length_append]
            have h1 := hft.out
            have h2 := hmo.2
            simp only [List.length_cons, List.length_nil]
            omega
        refine ⟨⟨_, _, _, _, _, rfl, HQ9⟩, ?_⟩
        rw [hme.out, HQ9.rd.measure]
        exact Nat.succ_lt_succ hmo.2
end Go.Proofs.YtbldognffppeiaaDoor
