/- The reader's each over inputs, walked. -/
import Derived.Test.YtbldognffppeiaaDoorAtInput
namespace Go.Proofs.YtbldognffppeiaaDoor
open Go.RowKit Quo
set_option linter.unusedSimpArgs false
set_option linter.unusedVariables false
theorem inD_head (x : ByteArray × List ByteArray) : ∃ c t, inD x = c :: t ∧ c ≠ 93 := ⟨40, _, rfl, by decide⟩
theorem own_types {W : World} {b b' : Nat} {e e' : TypeId} {s s' : Nat} {v v' : Value} {n n' : Nat} {xs xs' : List Value} (h : W.ownsRow b e s v n xs) (h' : W.ownsRow b' e' s' v' n' xs') (hne : e ≠ e') : v.ownBlock = none ∨ v.ownBlock ≠ v'.ownBlock := by
  rcases h.2 with ⟨rfl, _⟩ | ⟨g, cap, cur, rfl, _, hg, _⟩
  · exact .inl rfl
  · right
    rcases h'.2 with ⟨rfl, _⟩ | ⟨g', cap', cur', rfl, _, hg', _⟩
    · intro e; cases e
    · intro e
      have e2 : g = g' := by injection e
      subst e2
      rw [hg] at hg'
      injection hg' with hg'
      injection hg' with _ h2 _
      exact hne h2
/-- The records' names lie in memory. -/
def Recs (W : World) (b : Nat) (acc : List (ByteArray × List ByteArray)) (RI : List (ByteArray × Value)) : Prop := ∀ (j : Nat) (x : ByteArray × List ByteArray), acc[j]? = some x → ∃ An cn, RI[j]? = some (x.1, .slice An x.2.length cn) ∧ W.ownsRow b 9 1 (.slice An x.2.length cn) x.2.length (x.2.map Value.string)
section
variable {W W' : World} {b g : Nat} {acc : List (ByteArray × List ByteArray)} {RI : List (ByteArray × Value)}
theorem recs_kept (h : Recs W b acc RI) (hg : g < b) (hk : Kept g W W') : Recs W' b acc RI := fun j x hj => by
  obtain ⟨An, cn, h1, h2⟩ := h j x hj
  exact ⟨An, cn, h1, own_keptK h2 hg hk⟩
theorem recs_set (h : Recs W b acc RI) {p : Addr} (hp : p.block < b) (u : Value) : Recs (W.setCell p u) b acc RI := fun j x hj => by
  obtain ⟨An, cn, h1, h2⟩ := h j x hj
  exact ⟨An, cn, h1, own_set h2 hp u⟩
theorem recs_row (h : Recs W b acc RI) (hg : g < b) (cs : Array Value) : Recs (W.setRow g cs) b acc RI := fun j x hj => by
  obtain ⟨An, cn, h1, h2⟩ := h j x hj
  exact ⟨An, cn, h1, own_row h2 hg cs⟩
theorem recs_weaken {b' : Nat} (h : Recs W b acc RI) (hb : b' ≤ b) : Recs W b' acc RI := fun j x hj => by
  obtain ⟨An, cn, h1, h2⟩ := h j x hj
  exact ⟨An, cn, h1, own_weaken h2 hb⟩
theorem recs_alloc (h : Recs W b acc RI) (o : Obj) : Recs (W.alloc o) b acc RI := fun j x hj => by
  obtain ⟨An, cn, h1, h2⟩ := h j x hj
  exact ⟨An, cn, h1, h2.alloc o⟩
theorem recs_grown (h : Recs W b acc RI) {b' : Nat} {s : Nat} {v : Value} {n : Nat} {xs : List Value} (ho : W.ownsRow b' 61 s v n xs) (hg : W.grownBy W' v.ownBlock) : Recs W' b acc RI := fun j x hj => by
  obtain ⟨An, cn, h1, h2⟩ := h j x hj
  exact ⟨An, cn, h1, h2.kept hg (own_types h2 ho (by decide))⟩
theorem recs_snoc {x : ByteArray × List ByteArray} {r : ByteArray × Value} (h : Recs W b acc RI) (hl : acc.length = RI.length) (hx : ∃ An cn, r = (x.1, .slice An x.2.length cn) ∧ W.ownsRow b 9 1 (.slice An x.2.length cn) x.2.length (x.2.map Value.string)) : Recs W b (acc ++ [x]) (RI ++ [r]) := fun j y hj => by
  by_cases hlt : j < acc.length
  · rw [List.getElem?_append_left hlt] at hj
    obtain ⟨An, cn, h1, h2⟩ := h j y hj
    exact ⟨An, cn, by rw [List.getElem?_append_left (by omega)]; exact h1, h2⟩
  · have hj1 := (List.getElem?_eq_some_iff.1 hj).1
    rw [List.length_append] at hj1
    simp only [List.length_cons, List.length_nil] at hj1
    obtain rfl : j = acc.length := by omega
    rw [List.getElem?_append_right (Nat.le_refl _), Nat.sub_self] at hj
    injection hj with hj
    subst hj
    obtain ⟨An, cn, h1, h2⟩ := hx
    exact ⟨An, cn, by rw [hl, List.getElem?_append_right (Nat.le_refl _), Nat.sub_self, h1]; rfl, h2⟩
end
/-- Inputs in memory, owned. -/
def InsRow (W : World) (b : Nat) (v : Value) (n : Nat) (l : List (ByteArray × List ByteArray)) : Prop := ∃ RI, l.length = RI.length ∧ W.ownsRow b 61 2 v n (recCells RI) ∧ Recs W b l RI
/-- The loop's state. -/
structure EInvI (w : World) (g : Nat) (R : Option (List (ByteArray × List ByteArray) × List UInt8)) (acc : List (ByteArray × List ByteArray)) (sr : Option (List UInt8)) (RI : List (ByteArray × Value)) (A : Option Addr) (n c : Nat) (W : World) : Prop where
  rd : RdSt W g sr
  kept : Kept g w W
  own : W.ownsRow w.heap.size 61 2 (.slice A n c) n (recCells RI)
  len : n = RI.length
  lenA : acc.length = RI.length
  fit : ∀ l, sr = some l → acc.length + l.length ≤ 1048576
  said : EachSays rdIn R acc sr
  recs : ∀ l, sr = some l → Recs W w.heap.size acc RI
set_option maxHeartbeats 4000000 in
set_option maxRecDepth 1000000 in
theorem eachI_any (g : Nat) (st : Option (List UInt8)) (w : World) (hg : 1 < g) (hT : Tabs w) (hl : ∀ l, st = some l → l.length ≤ 1048576) (h : RdSt w g st) : Calls Tryd.prog 60 #[.pointer (some ⟨g, 0, none⟩), .func (.func 61) #[] #[]] w fun e w' => ∃ A n c, e = .returned (.slice A n c) ∧ RdSt w' g ((st.bind (eachR rdIn)).map (·.2)) ∧ Kept g w w' ∧ (∀ p, st.bind (eachR rdIn) = some p → n = p.1.length ∧ InsRow w' w.heap.size (.slice A n c) n p.1) := by
  have HC := Lib.hid (take_any [91] g st w h)
  have HT := Lib.hid hT
  have hlt := Lib.hid h.lt
  obtain ⟨s1, hs1⟩ : ∃ s1, Hid (st.bind (eat [91]) = s1) := ⟨_, rfl⟩
  obtain ⟨R, hR⟩ : ∃ R, Hid (st.bind (eachR rdIn) = R) := ⟨_, rfl⟩
  have hR1 : Hid (EachSays rdIn R [] s1 ∧ ∀ l, s1 = some l → l.length ≤ 1048576) := by
    rw [Hid, ← hR.out, ← hs1.out]
    cases st with
    | none => exact ⟨rfl, fun l e => by cases e⟩
    | some l0 =>
      show EachSays rdIn (eachR rdIn l0) [] (eat [91] l0) ∧ ∀ l, eat [91] l0 = some l → l.length ≤ 1048576
      unfold eachR
      cases he : eat [91] l0 with
      | none => exact ⟨rfl, fun l e => by cases e⟩
      | some l1 =>
        refine ⟨EachSays.start rfl, fun l e => ?_⟩
        injection e with e
        have := hl l0 rfl
        rw [eat_less he, e] at this
        omega
  rw [hs1.out] at HC
  rw [hR.out]
  clear h hT hl hR hs1
  go_enter Tryd.func60, Tryd.ntmps60
  go_wp2_with (first
    | (go_at_call 57; refine HC.out.mono ?_; rintro e w1 ⟨rfl, hr, hk⟩; have HR1 := Lib.hid hr; have HK1 := Lib.hid hk; clear hr hk)
    | fail)
  have HI : Hid (EInvI w g R [] s1 [] none 0 0 w1) := ⟨HR1.out, HK1.out, World.ownsRow_nil _ _ _ _, rfl, rfl, fun l e => by have := hR1.out.2 l e; simpa using this, hR1.out.1, fun l e j x hj => by simp at hj⟩
  clear HR1 HK1 HC hR1
  obtain ⟨i61, hi0, hz0, hz1, hz2⟩ := info_parts info61'
  have Z9 := Lib.hid hz0
  have S9 := Lib.hid hz1
  have Y9 := Lib.hid hz2
  have I9 := Lib.hid hi0
  clear hi0 hz0 hz1 hz2
  go_loopw [5] (fun t5 wr => ∃ (acc : List (ByteArray × List ByteArray)) (sr : Option (List UInt8)) (RI : List (ByteArray × Value)) (A : Option Addr) (n c : Nat), t5 = .slice A n c ∧ Hid (EInvI w g R acc sr RI A n c wr)) (fun _ wr => mRd wr g)
  case atStart => exact ⟨[], s1, [], none, 0, 0, rfl, HI⟩
  case round =>
    clear HI
    obtain ⟨acc, sr, RI, A, n, c, rfl, HI⟩ := hrel
    cases sr with
    | none =>
      obtain ⟨s, ne, hbk0⟩ := HI.out.rd
      have hbk := Lib.hid hbk0
      clear hbk0
      have p1 : wr.cell? ⟨g, 1, none⟩ = some (.iface 87 (.agg #[.int .i64 (ne : Int)])) := hbk.out.cell 1
      have HE := Lib.hid (take_any [93] g none wr HI.out.rd)
      go_wp2_with (first
        | (go_at_call 57; refine HE.out.mono ?_; rintro e w2 ⟨rfl, hr, hk⟩; have HR2 := Lib.hid hr; have HK2 := Lib.hid hk; clear hr hk)
        | fail)
      go_ret
      have e0 : R = none := HI.out.said
      rw [e0]
      exact ⟨_, _, _, rfl, HR2.out, HI.out.kept.trans HK2.out, fun p e => by cases e⟩
    | some l =>
      have hme : Hid (mRd wr g = l.length + 1) := HI.out.rd.measure
      have hbk : Hid (Blk wr g 84 #[.string (tx l), .nilIface]) := HI.out.rd
      have p0 : wr.cell? ⟨g, 0, none⟩ = some (.string (tx l)) := hbk.out.cell 0
      have p1 : wr.cell? ⟨g, 1, none⟩ = some .nilIface := hbk.out.cell 1
      have HPf := Lib.hid (Tryd.strings_HasPrefix (tx l) ⟨#[93]⟩ wr)
      have hpf : Hid (Lib.hasPrefix (tx l).data.toList (⟨#[93]⟩ : ByteArray).data.toList = [93].isPrefixOf l) := rfl
      obtain ⟨s, hs⟩ : ∃ s, Hid (tx l = s) := ⟨_, rfl⟩
      rw [hs.out] at p0 HPf hpf
      cases hp : [93].isPrefixOf l with
      | true =>
        have hpt := hpf.out.trans hp
        have HE := Lib.hid (take_any [93] g (some l) wr HI.out.rd)
        obtain ⟨r, hr0⟩ := List.isPrefixOf_iff_prefix.1 hp
        have hr1 := Lib.hid hr0
        clear hp hr0
        go_wp2_with (first
          | (go_at_call 74; refine HPf.out.mono ?_; rintro e w2 ⟨rfl, hw⟩; have hw := hw.symm; subst hw)
          | (go_at_call 57; refine HE.out.mono ?_; rintro e w2 ⟨rfl, hr, hk⟩; have HR2 := Lib.hid hr; have HK2 := Lib.hid hk; clear hr hk)
          | fail)
        go_ret
        have hsd := HI.out.said
        rw [← hr1.out] at hsd
        rw [hsd.ends]
        refine ⟨_, _, _, rfl, ?_, HI.out.kept.trans HK2.out, fun p e => ?_⟩
        · have h4 := HR2.out
          change RdSt _ g (eat [93] l) at h4
          rw [(eat_iff [93] l r).2 hr1.out.symm] at h4
          exact h4
        · injection e with e
          rw [← e]
          exact ⟨by rw [HI.out.lenA]; exact HI.out.len, RI, HI.out.lenA, own_keptK HI.out.own hlt.out HK2.out, recs_kept (HI.out.recs l rfl) hlt.out HK2.out⟩
      | false =>
        have hpt := hpf.out.trans hp
        by_cases hn : n = 0
        · have d1 : ¬ (0 : Int) < (n : Int) := by omega
          have hac : acc = [] := List.eq_nil_of_length_eq_zero (by have := HI.out.len; have := HI.out.lenA; omega)
          obtain ⟨l2, hl2'⟩ : ∃ l2, Hid (l = l2) := ⟨l, rfl⟩
          have hsep : Hid (sepR acc l = some l2) := by rw [Hid, ← hl2'.out, hac]; rfl
          clear hn hac
          have HRs : Hid (RdSt wr g (some l2)) := by rw [← hl2'.out]; exact HI.out.rd
          have HKs : Hid (Kept g wr wr) := Kept.refl g wr
          go_upto_region 6 with (first
            | (go_at_call 74; refine HPf.out.mono ?_; rintro e w2 ⟨rfl, hw⟩; have hw := hw.symm; subst hw)
            | fail)
          clear p0 p1
          have hbk2 : Hid (Blk wr g 84 #[.string (tx l2), .nilIface]) := HRs.out
          have k1 : wr.cell? ⟨g, 1, none⟩ = some .nilIface := hbk2.out.cell 1
          have HTW : Hid (Tabs wr) := tabs_kept HT.out hg (HI.out.kept.trans HKs.out)
          have hl2 : Hid (l2.length ≤ 1048576) := by have h1 := HI.out.fit l rfl; have h2 := sep_len hsep.out; rw [Hid]; omega
          have HQ := Lib.hid (input_any g (some l2) wr hg HTW.out (fun l e => by injection e with e; rw [← e]; exact hl2.out) HRs.out)
          have HRW := Lib.hid (own_keptK HI.out.own hlt.out HKs.out)
          have hn1 : n ≤ 1048576 := by have h1 := HI.out.fit l rfl; have h2 := HI.out.len; have h3 := HI.out.lenA; omega
          have HKW := Lib.hid (HI.out.kept.trans HKs.out)
          have hft := Lib.hid (HI.out.fit l rfl)
          have hsd := Lib.hid HI.out.said
          have hln := Lib.hid HI.out.len
          have hla := Lib.hid HI.out.lenA
          have hrc := Lib.hid (recs_kept (HI.out.recs l rfl) hlt.out HKs.out)
          clear HI
          go_wp2_with (first
            | (go_at_call 61; refine HQ.out.mono ?_; rintro e w3 ⟨q, An, nn, cn, rfl, hr3, hk3, hq3⟩; have HR3 := Lib.hid hr3; have HQ3 := Lib.hid hq3; have HK3 := Lib.hid hk3; have HRow := Lib.hid ((own_keptK HRW.out hlt.out hk3).alloc (.cells #[.string q, .slice An nn cn] 61)); have hrc3 := Lib.hid (recs_alloc (recs_kept hrc.out hlt.out hk3) (.cells #[.string q, .slice An nn cn] 61)); have HB3 : Hid (w.heap.size ≤ (w3.alloc (.cells #[.string q, .slice An nn cn] 61)).heap.size) := (by have h1 := (HKW.out.trans hk3).size; rw [Hid, World.size_alloc]; omega); clear hr3 hq3 hk3)
            | (at_builtin; refine wpList_append_lies _ rfl (.tmp 31) (.tmp 35) 25 rfl w.heap.size 61 i61 _ 2 40 Tryd.underlying25 I9.out Z9.out S9.out Y9.out rfl (by omega) (.slice A n c) n (recCells RI) rfl HRow.out ⟨w3.heap.size, 0, none⟩ 1 1 [.string q, .slice An nn cn] rfl rfl (World.news_of_block (cs := #[.string q, .slice An nn cn]) (t := 61) (fr := (0, 0)) (heap_alloc_new w3 _)) (by simp [Value.oneCell']) (by omega) (by unfold maxLen; omega) (by omega) HB3.out (w3.heap.size + 1) (by simp) ?_; intro gg cap w4 hown4 hgrow hat hltg; have HO4 := Lib.hid hown4; have hrc4 := Lib.hid (recs_grown hrc3.out HRow.out hgrow); have HG4 := Lib.hid hgrow; have HB4 := Lib.hid (below_of_own HRow.out hgrow HB3.out); clear hown4 hgrow hat hltg)
            | fail)
          have HK4 : Hid (Kept g w w4) := ((HKW.out.trans HK3.out).alloc _).belowB HB4.out (Nat.le_refl _)
          have HR4 : Hid (RdSt w4 g (((some l2).bind rdIn).map (·.2))) := (HR3.out.kept HR3.out.lt ((Below.refl _ _).alloc (Nat.le_refl _) _)).kept hlt.out HB4.out
          have HO5 : Hid (w4.ownsRow w.heap.size 61 2 (.slice (some ⟨gg, 0, none⟩) (n + 1) cap) (n + 1) (recCells (RI ++ [(q, .slice An nn cn)]))) := by
            rw [Hid, ← recCells_snoc]
            exact HO4.out
          have hRL : Hid (n + 1 = (RI ++ [(q, Value.slice An nn cn)]).length) := by rw [Hid, List.length_append, hln.out]; rfl
          cases hrd : rdIn l2 with
          | none =>
            have HQ9 : EInvI w g R (acc ++ [(q, [])]) none (RI ++ [(q, .slice An nn cn)]) (some ⟨gg, 0, none⟩) (n + 1) cap w4 := by
              refine ⟨?_, HK4.out, HO5.out, hRL.out, by rw [List.length_append, List.length_append, hla.out]; rfl, (fun l e => by cases e), hsd.out.noElem hp hsep.out hrd, (fun l e => by cases e)⟩
              have h4 := HR4.out
              change RdSt w4 g (Option.map _ (rdIn l2)) at h4
              rw [hrd] at h4
              exact h4
            refine ⟨⟨_, _, _, _, _, _, rfl, HQ9⟩, ?_⟩
            rw [hme.out, HQ9.rd.measure]
            exact Nat.succ_pos _
          | some p =>
            obtain ⟨x, r⟩ := p
            obtain ⟨hx, hx2, hx3⟩ := HQ3.out (x, r) hrd
            have hmo := EachSays.more rdIn_reads inD_head hsd.out hp hsep.out hrd
            have hnew : w4.ownsRow w.heap.size 9 1 (.slice An nn cn) nn (x.2.map Value.string) := (((own_weaken hx3 HKW.out.size).alloc _).kept HG4.out (own_types ((own_weaken hx3 HKW.out.size).alloc _) HRow.out (by decide)))
            have HQ9 : EInvI w g R (acc ++ [x]) (some r) (RI ++ [(q, .slice An nn cn)]) (some ⟨gg, 0, none⟩) (n + 1) cap w4 := by
              refine ⟨?_, HK4.out, HO5.out, hRL.out, by rw [List.length_append, List.length_append, hla.out]; rfl, (fun l e => ?_), hmo.1, fun l _ => ?_⟩
              · have h4 := HR4.out
                change RdSt w4 g (Option.map _ (rdIn l2)) at h4
                rw [hrd] at h4
                exact h4
              · injection e with e
                rw [← e, List.length_append]
                have h1 := hft.out
                have h2 := hmo.2
                simp only [List.length_cons, List.length_nil]
                omega
              · refine recs_snoc hrc4.out hla.out ?_
                subst hx
                subst hx2
                exact ⟨An, cn, rfl, hnew⟩
            refine ⟨⟨_, _, _, _, _, _, rfl, HQ9⟩, ?_⟩
            rw [hme.out, HQ9.rd.measure]
            exact Nat.succ_lt_succ hmo.2
        · have d1 : (0 : Int) < (n : Int) := by omega
          have HS := Lib.hid (take_any [44] g (some l) wr HI.out.rd)
          have hsp : Hid (sepR acc l = eat [44] l) := sepR_cons (by have := HI.out.len; have := HI.out.lenA; omega) l
          go_upto_region 6 with (first
            | (go_at_call 74; refine HPf.out.mono ?_; rintro e w2 ⟨rfl, hw⟩; have hw := hw.symm; subst hw)
            | (go_at_call 57; refine HS.out.mono ?_; rintro e w2 ⟨rfl, hr, hk⟩; have HR2 : Hid (RdSt w2 g (eat [44] l)) := hr; have HKs := Lib.hid hk; clear hr hk)
            | fail)
          clear p0 p1
          cases he : eat [44] l with
          | none =>
            rw [he] at HR2
            obtain ⟨s2, ne, hbk0⟩ := HR2.out
            have hbk2 := Lib.hid hbk0
            clear hbk0
            have k1 : w2.cell? ⟨g, 1, none⟩ = some (.iface 87 (.agg #[.int .i64 (ne : Int)])) := hbk2.out.cell 1
            have hnone := Lib.hid (HI.out.said.noSep hp (hsp.out.trans he))
            clear he hp
            go_wp2_with fail
            have HQ9 : EInvI w g R acc none RI A n c w2 := ⟨HR2.out, HI.out.kept.trans HKs.out, own_keptK HI.out.own hlt.out HKs.out, HI.out.len, HI.out.lenA, (fun l e => by cases e), hnone.out, (fun l e => by cases e)⟩
            refine ⟨⟨_, _, _, _, _, _, rfl, HQ9⟩, ?_⟩
            rw [hme.out, HQ9.rd.measure]
            exact Nat.succ_pos _
          | some l2 =>
            rw [he] at HR2
            have hsep : Hid (sepR acc l = some l2) := hsp.out.trans he
            clear he
            have hbk2 : Hid (Blk w2 g 84 #[.string (tx l2), .nilIface]) := HR2.out
            have k1 : w2.cell? ⟨g, 1, none⟩ = some .nilIface := hbk2.out.cell 1
            have HTW : Hid (Tabs w2) := tabs_kept HT.out hg (HI.out.kept.trans HKs.out)
            have hl2 : Hid (l2.length ≤ 1048576) := by have h1 := HI.out.fit l rfl; have h2 := sep_len hsep.out; rw [Hid]; omega
            have HQ := Lib.hid (input_any g (some l2) w2 hg HTW.out (fun l e => by injection e with e; rw [← e]; exact hl2.out) HR2.out)
            have HRW := Lib.hid (own_keptK HI.out.own hlt.out HKs.out)
            have hn1 : n ≤ 1048576 := by have h1 := HI.out.fit l rfl; have h2 := HI.out.len; have h3 := HI.out.lenA; omega
            have HKW := Lib.hid (HI.out.kept.trans HKs.out)
            have hft := Lib.hid (HI.out.fit l rfl)
            have hsd := Lib.hid HI.out.said
            have hln := Lib.hid HI.out.len
            have hla := Lib.hid HI.out.lenA
            have hrc := Lib.hid (recs_kept (HI.out.recs l rfl) hlt.out HKs.out)
            clear HI
            go_wp2_with (first
              | (go_at_call 61; refine HQ.out.mono ?_; rintro e w3 ⟨q, An, nn, cn, rfl, hr3, hk3, hq3⟩; have HR3 := Lib.hid hr3; have HQ3 := Lib.hid hq3; have HK3 := Lib.hid hk3; have HRow := Lib.hid ((own_keptK HRW.out hlt.out hk3).alloc (.cells #[.string q, .slice An nn cn] 61)); have hrc3 := Lib.hid (recs_alloc (recs_kept hrc.out hlt.out hk3) (.cells #[.string q, .slice An nn cn] 61)); have HB3 : Hid (w.heap.size ≤ (w3.alloc (.cells #[.string q, .slice An nn cn] 61)).heap.size) := (by have h1 := (HKW.out.trans hk3).size; rw [Hid, World.size_alloc]; omega); clear hr3 hq3 hk3)
              | (at_builtin; refine wpList_append_lies _ rfl (.tmp 31) (.tmp 35) 25 rfl w.heap.size 61 i61 _ 2 40 Tryd.underlying25 I9.out Z9.out S9.out Y9.out rfl (by omega) (.slice A n c) n (recCells RI) rfl HRow.out ⟨w3.heap.size, 0, none⟩ 1 1 [.string q, .slice An nn cn] rfl rfl (World.news_of_block (cs := #[.string q, .slice An nn cn]) (t := 61) (fr := (0, 0)) (heap_alloc_new w3 _)) (by simp [Value.oneCell']) (by omega) (by unfold maxLen; omega) (by omega) HB3.out (w3.heap.size + 1) (by simp) ?_; intro gg cap w4 hown4 hgrow hat hltg; have HO4 := Lib.hid hown4; have hrc4 := Lib.hid (recs_grown hrc3.out HRow.out hgrow); have HG4 := Lib.hid hgrow; have HB4 := Lib.hid (below_of_own HRow.out hgrow HB3.out); clear hown4 hgrow hat hltg)
              | fail)
            have HK4 : Hid (Kept g w w4) := ((HKW.out.trans HK3.out).alloc _).belowB HB4.out (Nat.le_refl _)
            have HR4 : Hid (RdSt w4 g (((some l2).bind rdIn).map (·.2))) := (HR3.out.kept HR3.out.lt ((Below.refl _ _).alloc (Nat.le_refl _) _)).kept hlt.out HB4.out
            have HO5 : Hid (w4.ownsRow w.heap.size 61 2 (.slice (some ⟨gg, 0, none⟩) (n + 1) cap) (n + 1) (recCells (RI ++ [(q, .slice An nn cn)]))) := by
              rw [Hid, ← recCells_snoc]
              exact HO4.out
            have hRL : Hid (n + 1 = (RI ++ [(q, Value.slice An nn cn)]).length) := by rw [Hid, List.length_append, hln.out]; rfl
            cases hrd : rdIn l2 with
            | none =>
              have HQ9 : EInvI w g R (acc ++ [(q, [])]) none (RI ++ [(q, .slice An nn cn)]) (some ⟨gg, 0, none⟩) (n + 1) cap w4 := by
                refine ⟨?_, HK4.out, HO5.out, hRL.out, by rw [List.length_append, List.length_append, hla.out]; rfl, (fun l e => by cases e), hsd.out.noElem hp hsep.out hrd, (fun l e => by cases e)⟩
                have h4 := HR4.out
                change RdSt w4 g (Option.map _ (rdIn l2)) at h4
                rw [hrd] at h4
                exact h4
              refine ⟨⟨_, _, _, _, _, _, rfl, HQ9⟩, ?_⟩
              rw [hme.out, HQ9.rd.measure]
              exact Nat.succ_pos _
            | some p =>
              obtain ⟨x, r⟩ := p
              obtain ⟨hx, hx2, hx3⟩ := HQ3.out (x, r) hrd
              have hmo := EachSays.more rdIn_reads inD_head hsd.out hp hsep.out hrd
              have hnew : w4.ownsRow w.heap.size 9 1 (.slice An nn cn) nn (x.2.map Value.string) := (((own_weaken hx3 HKW.out.size).alloc _).kept HG4.out (own_types ((own_weaken hx3 HKW.out.size).alloc _) HRow.out (by decide)))
              have HQ9 : EInvI w g R (acc ++ [x]) (some r) (RI ++ [(q, .slice An nn cn)]) (some ⟨gg, 0, none⟩) (n + 1) cap w4 := by
                refine ⟨?_, HK4.out, HO5.out, hRL.out, by rw [List.length_append, List.length_append, hla.out]; rfl, (fun l e => ?_), hmo.1, fun l _ => ?_⟩
                · have h4 := HR4.out
                  change RdSt w4 g (Option.map _ (rdIn l2)) at h4
                  rw [hrd] at h4
                  exact h4
                · injection e with e
                  rw [← e, List.length_append]
                  have h1 := hft.out
                  have h2 := hmo.2
                  simp only [List.length_cons, List.length_nil]
                  omega
                · refine recs_snoc hrc4.out hla.out ?_
                  subst hx
                  subst hx2
                  exact ⟨An, cn, rfl, hnew⟩
              refine ⟨⟨_, _, _, _, _, _, rfl, HQ9⟩, ?_⟩
              rw [hme.out, HQ9.rd.measure]
              exact Nat.succ_lt_succ hmo.2
end Go.Proofs.YtbldognffppeiaaDoor
