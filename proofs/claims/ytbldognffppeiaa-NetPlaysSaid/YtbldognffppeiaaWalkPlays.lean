/- NetPlays, walked. -/
import Derived.Test.YtbldognffppeiaaNetPlay
import Derived.StillTailTactics
namespace Go.Proofs.Ytbldognffppeiaa
open Go.RowKit Go.Maps
set_option linter.unusedSimpArgs false
set_option linter.unusedVariables false
/-- A request. -/
structure ActV where
  kind : Int
  name : ByteArray
  from_ : Int
  count : Int
def ActsArg (w : World) (A : Option Addr) (qs : List ActV) : Prop :=
  ∀ (j : Nat) (a : ActV), qs[j]? = some a → ∃ g o, A = some ⟨g, o, none⟩ ∧ a.name.size ≤ maxLen ∧ w.cell? ⟨g, o + j * 4, none⟩ = some (.int .i64 a.kind) ∧ w.cell? ⟨g, o + j * 4 + 1, none⟩ = some (.string a.name) ∧ w.cell? ⟨g, o + j * 4 + 2, none⟩ = some (.int .i64 a.from_) ∧ w.cell? ⟨g, o + j * 4 + 3, none⟩ = some (.int .i64 a.count) ∧ a.from_ ≤ 9223372036854775807
theorem info41' : (Try.prog.info? 41).map (fun i => (i.zero, i.size, i.bytes)) = some (some (.agg #[.string ⟨#[]⟩, .slice none 0 0]), 2, 40) := by kernel_rfl
theorem info46' : (Try.prog.info? 46).map (fun i => (i.zero, i.size, i.bytes)) = some (some (.agg #[.string ⟨#[]⟩, .slice none 0 0]), 2, 40) := by kernel_rfl
theorem names_call (w : World) : Calls Try.prog 12 #[] w fun e w' => e = .returned (.bool true) ∧ w = w' := by
  go_enter Try.func12, Try.ntmps12
  go_wp2_with fail
  go_ret
  exact ⟨rfl, rfl⟩
set_option maxHeartbeats 4000000 in
set_option maxRecDepth 100000 in
theorem plays_any (A : Option Addr) (fs : List (ByteArray × List UInt8)) (c : Nat) (hfl : fs.length * 40 ≤ 140737488351232) (hfc : fs.length ≤ c) (hcm : c ≤ maxLen) (A2 : Option Addr) (zs : List Int) (c2 : Nat) (hz : zs.length * 8 ≤ 140737488351232) (hA2 : A2 = none → zs.length = 0 ∧ c2 = 0)
    (A3 : Option Addr) (qs : List ActV) (c3 : Nat) (hac : qs.length ≤ c3) (hcm3 : c3 ≤ maxLen)
    (w : World) (hf : FilesArg w A fs) (hr : FaultsAt w A2 zs) (ha : ActsArg w A3 qs) :
    Calls Try.prog 5 #[.slice A fs.length c, .slice A2 zs.length c2, .slice A3 qs.length c3] w fun e w' => e = .returned (.bool true) ∧ Below w.heap.size w w' := by
  have HF := Lib.hid hf
  have HR := Lib.hid hr
  have HA := Lib.hid ha
  have HA2 := Lib.hid hA2
  obtain ⟨n, hn⟩ : ∃ n, Hid (n = fs.length) := ⟨_, rfl⟩
  obtain ⟨m, hm⟩ : ∃ m, Hid (m = zs.length) := ⟨_, rfl⟩
  obtain ⟨q, hq⟩ : ∃ q, Hid (q = qs.length) := ⟨_, rfl⟩
  rw [← hn.out] at hfl hfc ⊢
  rw [← hm.out] at hz ⊢
  rw [← hq.out] at hac ⊢
  have hfl' : n ≤ maxLen := by unfold maxLen; omega
  unfold maxLen at hcm hcm3
  clear hf hr ha hA2
  by_cases h100 : 100 < n ∧ n ≤ 1024
  · obtain ⟨h1, h2⟩ := h100
    have d1 : (100 : Int) < (n : Int) := by omega
    have d2 : (n : Int) ≤ 1024 := by omega
    go_enter Try.func5, Try.ntmps5
    go_wp2_with fail
    go_ret
    exact ⟨rfl, Below.refl _ _⟩
  · have hd : Hid (n ≤ 100 ∨ 1024 < n) := by rw [Hid]; omega
    clear h100
    obtain ⟨i0, hi0, hz0, hz1, hz2⟩ := info_parts info8'
    have B0 := Lib.hid hz0
    have B1 := Lib.hid hz1
    have B2 := Lib.hid hz2
    have BI := Lib.hid hi0
    clear hi0 hz0 hz1 hz2
    obtain ⟨i1, hi0, hz0, hz1, hz2⟩ := info_parts info41'
    have C0 := Lib.hid hz0
    have C1 := Lib.hid hz1
    have C2 := Lib.hid hz2
    have CI := Lib.hid hi0
    clear hi0 hz0 hz1 hz2
    obtain ⟨i2, hi0, hz0, hz1, hz2⟩ := info_parts info46'
    have D0 := Lib.hid hz0
    have D1 := Lib.hid hz1
    have D2 := Lib.hid hz2
    have DI := Lib.hid hi0
    clear hi0 hz0 hz1 hz2
    have hstart := Lib.hid (Copies.start w fs)
    go_enter Try.func5, Try.ntmps5
    go_upto_region 1 with (fail)
    go_cut [34] (fun t34 wx => t34 = .bool false ∧ wx = w)
    case first =>
      as_aux_lemma =>
        by_cases h1 : 100 < n
        · have d1 : (100 : Int) < (n : Int) := by omega
          have d2 : ¬ (n : Int) ≤ 1024 := by have := hd.out; omega
          go_wp2_with fail
          go_meet
          exact ⟨rfl, rfl⟩
        · have d1 : ¬ (100 : Int) < (n : Int) := by omega
          go_wp2_with fail
          go_meet
          exact ⟨rfl, rfl⟩
    case rest =>
      obtain ⟨rfl, rfl⟩ := hcut
      obtain ⟨ws, rfl⟩ : ∃ ws : World, ws = wc := ⟨_, rfl⟩
      go_upto_block 0 with (fail)
      go_cut [7, 8] (fun t7 t8 wx => ∃ (AO AL : Option Addr) (cO cL : Nat) (RO RL : List (ByteArray × Value)), t7 = .slice AO n cO ∧ t8 = .slice AL n cL ∧ Hid (Copies ws fs n n (.slice AO n cO) (.slice AL n cL) RO RL wx))
      case first =>
        as_aux_lemma =>
          go_wp2_with fail
          go_loopw [7, 8, 9] (fun t7 t8 t9 wr => ∃ (i : Nat) (AO AL : Option Addr) (cO cL : Nat) (RO RL : List (ByteArray × Value)), t7 = .slice AO i cO ∧ t8 = .slice AL i cL ∧ t9 = .int .i64 i ∧ i ≤ n ∧ Hid (Copies ws fs i i (.slice AO i cO) (.slice AL i cL) RO RL wr)) (fun _ _ t9 _ => n - (intOf t9).toNat)
          case atStart => exact ⟨0, none, none, 0, 0, [], [], rfl, rfl, rfl, by omega, hstart⟩
          case round =>
            as_aux_lemma =>
              clear hstart
              obtain ⟨i, AO, AL, cO, cL, RO, RL, rfl, rfl, rfl, hin, HC⟩ := hrel
              by_cases hlt : i < n
              · obtain ⟨f, hf⟩ : ∃ f, Hid (fs[i]? = some f) := ⟨_, List.getElem?_eq_getElem (by rw [← hn.out]; exact hlt)⟩
                obtain ⟨g, o, Aj, cj, rfl, q2, q3, q4, q5, q6, q7, q8⟩ := HF.out i f hf.out
                obtain ⟨k, hk⟩ : ∃ k, Hid (k = f.2.length) := ⟨_, rfl⟩
                have HR8 : Hid (ReadsB ws Aj f.2) := q8
                rw [← hk.out] at q3 q4 q6
                have hS : Hid (∀ W, Below ws.heap.size ws W → W.cell? ⟨g, o + i * 2, none⟩ = some (.string f.1) ∧ W.cell? ⟨g, o + i * 2 + 1, none⟩ = some (.slice Aj k cj)) := fun W hb => ⟨(hb.cell (World.block_lt_of_cell? ws _ q2)).trans q2, (hb.cell (World.block_lt_of_cell? ws _ q3)).trans q3⟩
                have HAj : Hid (Aj = none → k = 0 ∧ cj = 0) := q6
                have q7' : f.1.size ≤ maxLen := q7
                have r2 := (hS.out wr HC.out.below).1
                have r3 := (hS.out wr HC.out.below).2
                have d1 : (i : Int) < (n : Int) := by omega
                have d2 : (0 : Int) ≤ (i : Int) := by omega
                have hO0 : Hid (((wr.alloc (.cells #[] 5)).drew).ownsRow wr.heap.size 5 1 (.slice (some ⟨wr.heap.size, 0, none⟩) 0 0) 0 []) := ⟨rfl, Or.inr ⟨wr.heap.size, 0, #[], rfl, Nat.le_refl _, heap_alloc_new wr _, Nat.le_refl _, Nat.zero_le _, rfl, rfl⟩⟩
                have q5' : cj ≤ maxLen := by unfold maxLen; omega
                clear q2 q3 q6 q7 q8
                go_upto_region 8 with (fail)
                have hNl : Hid ((cellsB f.2).toList.length = k) := by rw [Hid, hk.out, Array.length_toList, cellsB_size]
                have hbw0 : Hid (Below wr.heap.size wr ((wr.alloc (.cells #[] 5)).drew)) := below_drewN' ((Below.refl _ _).alloc (Nat.le_refl _) (.cells #[] 5)) 1
                have hNW : Hid (∀ ad, Aj = some ad → ∀ j u, (cellsB f.2).toList[j]? = some u → ((wr.alloc (.cells #[] 5)).drew).cell? (ad.add j) = some u) := news_reads HR8.out (below_step' HC.out.below hbw0.out) (fun h => by rw [← hk.out]; exact (HAj.out h).1)
                have hN3 : Hid (wr.heap.size ≤ ((wr.alloc (.cells #[] 5)).drew).heap.size) := hbw0.out.size
                go_region_held3 (fun W => W.cell? ⟨g, o + i * 2, none⟩ = some (.string f.1) ∧ W.cell? ⟨g, o + i * 2 + 1, none⟩ = some (.slice Aj k cj)) (first | go_keep | exact hS.out _ (by assumption))
                  (first
                    | (refine step_append_any rfl (.tmp 47) (.tmp 52) 33 rfl wr.heap.size 5 i0 (.int .u8 0) 1 Try.underlying33 BI.out B0.out B1.out B2.out rfl _ 0 [] (by rfl) hO0.out Aj k cj (cellsB f.2).toList (by rfl) hNl.out HAj.out hNW.out (cells_one_mem _) (by unfold maxLen; omega) (by omega) hN3.out ?_; intro v1 w1 hown1 hb1; rw [Nat.zero_add, List.nil_append] at hown1; obtain ⟨A1, c1, rfl, hc1, hm1, HP1⟩ := row_form hown1; have HC1 := Lib.hid (HC.out.grown (hbw0.out.trans hb1)); have HBw1 := HC1.out.below; clear hown1 hb1)
                    | (refine step_append_lies _ (by rfl) (.tmp 41) (.tmp 55) 42 (by rfl) ws.heap.size 41 i1 _ 2 40 Try.underlying42 CI.out C0.out C1.out C2.out rfl (by omega) (.slice AO i cO) i (recCells RO) (by rfl) (HC1.out.own.alloc _) ⟨w1.heap.size, 0, none⟩ 1 1 [.string f.1, .slice A1 k c1] (by rfl) (by rfl) (World.news_of_block (cs := #[.string f.1, .slice A1 k c1]) (t := 41) (fr := (0, 0)) (heap_alloc_new w1 _)) (by simp [Value.oneCell']) (by omega) (by unfold maxLen; omega) (by omega) (by have := HC1.out.below.size; simp; omega) (w1.heap.size + 1) (by simp) ?_; intro gg cap w2 hown2 hgrow hat hltg; have HC2 := Lib.hid (HC.out.stepO HC1.out hf.out hk.out hc1 hm1 q7' HP1.out hown2 hgrow hat); have HBw2 := HC2.out.below; clear hown2 hgrow hat hltg))
                clear HBw1 HBw2 HC1 HP1 hNl hbw0 hNW hN3 hO0 HC
                have r2 := (hS.out w2 HC2.out.below).1
                have r3 := (hS.out w2 HC2.out.below).2
                go_wp2_with (at_builtin; refine wpList_append_lies _ rfl (.tmp 57) (.tmp 62) 45 rfl ws.heap.size 46 i2 _ 2 40 Try.underlying45 DI.out D0.out D1.out D2.out rfl (by omega) (.slice AL i cL) i (recCells RL) rfl (HC2.out.ref.alloc _) ⟨w2.heap.size, 0, none⟩ 1 1 [.string f.1, .slice Aj k cj] rfl rfl (World.news_of_block (cs := #[.string f.1, .slice Aj k cj]) (t := 46) (fr := (0, 0)) (heap_alloc_new w2 _)) (by simp [Value.oneCell']) (by omega) (by unfold maxLen; omega) (by omega) (by have := HC2.out.below.size; simp; omega) (w2.heap.size + 1) (by simp) ?_; intro gl capL w3 hown3 hgrow3 hat3 hlt3; have HC3 := Lib.hid (HC2.out.stepL hf.out hk.out q4 q5' q7' HR8.out hown3 hgrow3 hat3); clear hown3 hgrow3 hat3 hlt3)
                refine ⟨⟨i + 1, some ⟨gg, 0, none⟩, some ⟨gl, 0, none⟩, cap, capL, _, _, by first | rfl | exact ⟨rfl, rfl, rfl⟩, by first | rfl | exact ⟨rfl, rfl, rfl⟩, by first | rfl | simp, by omega, HC3⟩, by simp [intOf]; omega⟩
              · obtain rfl : i = n := by omega
                have d1 : ¬ (i : Int) < (i : Int) := by omega
                go_wp2_with fail
                go_meet
                exact ⟨AO, AL, cO, cL, RO, RL, rfl, rfl, HC⟩
      case rest =>
        obtain ⟨AO, AL, cO, cL, RO, RL, rfl, rfl, HC⟩ := hcut
        clear hstart C0 C1 C2 CI D0 D1 D2 DI i1 i2 B0 B1 B2 BI i0
        go_upto_region 10 with (fail)
        obtain ⟨j0, hi0, hz0, hz1, hz2⟩ := info_parts info3'
        have E0 := Lib.hid hz0
        have E1 := Lib.hid hz1
        have E2 := Lib.hid hz2
        have EI := Lib.hid hi0
        have hbw : Hid (Below wc.heap.size wc (wc.alloc (.cells #[] 3))) := (Below.refl _ _).alloc (Nat.le_refl _) _
        have hO0 : Hid ((wc.alloc (.cells #[] 3)).ownsRow wc.heap.size 3 1 (.slice (some ⟨wc.heap.size, 0, none⟩) 0 0) 0 []) := ⟨rfl, Or.inr ⟨wc.heap.size, 0, #[], rfl, Nat.le_refl _, heap_alloc_new wc _, Nat.le_refl _, Nat.zero_le _, rfl, rfl⟩⟩
        have hNW : Hid (∀ ad, A2 = some ad → ∀ j u, (zs.map (Value.int .i64))[j]? = some u → (wc.alloc (.cells #[] 3)).cell? (ad.add j) = some u) := news_ints HR.out (below_step' HC.out.below hbw.out)
        have hNl : Hid ((zs.map (Value.int .i64)).length = m) := by rw [Hid, List.length_map, hm.out]
        have HA2m : Hid (A2 = none → m = 0 ∧ c2 = 0) := by rw [hm.out]; exact HA2.out
        have hsz : wc.heap.size ≤ (wc.alloc (.cells #[] 3)).heap.size := by simp
        clear hi0 hz0 hz1 hz2
        go_upto_region 11 with (first
          | (at_builtin; refine append_any rfl (.tmp 66) (.tmp 67) 26 rfl wc.heap.size 3 j0 (.int .i64 0) 8 Try.underlying26 EI.out E0.out E1.out E2.out rfl _ 0 [] rfl hO0.out A2 m c2 (zs.map (Value.int .i64)) rfl hNl.out HA2m.out hNW.out (ints_one zs) (by unfold maxLen; omega) (by omega) hsz ?_; intro v4 w4 hown4 hb4; rw [Nat.zero_add, List.nil_append] at hown4; obtain ⟨B4, d4, rfl, hF4, hB4⟩ := owned_faults2 (zs := zs) (by rw [← hm.out]; exact hown4); rw [← hm.out] at hB4 ⊢; have HC4 := Lib.hid (HC.out.grown (hbw.out.trans hb4)); have HF4 := Lib.hid hF4; have HB4 := Lib.hid hB4; clear hown4 hb4 hF4 hB4)
          | (go_at_call 10; refine (newP_call AO fs n cO hn.out hfl' B4 zs m d4 hm.out hz HB4.out w4 HC4.out HF4.out).mono ?_; rintro e w5 ⟨p, rfl, hp5, hb5⟩; have HP5 := Lib.hid hp5; have HC5 := Lib.hid (HC4.out.grown hb5); have HB5 := Lib.hid hb5; clear hp5 hb5)
          | fail)
        clear hbw hO0 hNW hNl hsz E0 E1 E2 EI HA2m j0 HC
        have hRN := Lib.hid (rnewP_call AL fs n cL hn.out hfl' A2 zs m c2 hm.out w5 HC5.out HR.out)
        go_upto_region 12 with (first
          | (go_at_call 11; refine hRN.out.mono ?_; rintro e w6 ⟨r, rfl, hp6, hb6⟩; have HP6 := Lib.hid hp6; have HB6 := Lib.hid hb6; clear hp6 hb6)
          | fail)
        obtain ⟨bb, hbb⟩ : ∃ bb, Hid (decide (newErr fs ≠ 0) = bb) := ⟨_, rfl⟩
        have hpn : p.isNone = bb := HP5.out.isNone.trans hbb.out
        have hrn : r.isNone = bb := HP6.out.isNone.trans hbb.out
        go_upto_region 14 with (first
          | (go_at_call 12; refine (names_call _).mono ?_; rintro e w' ⟨rfl, rfl⟩)
          | fail)
        clear hpn hrn hRN
        go_upto_block 2 with (fail)
        have HC6 := Lib.hid (HC5.out.grown HB6.out)
        have hbst := Lib.hid HC6.out.bumped
        obtain ⟨w6, rfl⟩ : ∃ w6' : World, w6' = w6 := ⟨_, rfl⟩
        go_cut [14] (fun t14 wx => Hid (Bumped RO ws.heap.size w6 wx))
        case first =>
          as_aux_lemma =>
            go_wp2_with fail
            go_loopw [14] (fun t14 wr => ∃ i : Nat, t14 = .int .i64 i ∧ i ≤ n ∧ Hid (Bumped RO ws.heap.size w6 wr)) (fun t14 _ => n - (intOf t14).toNat)
            case atStart => exact ⟨0, rfl, by omega, hbst⟩
            case round =>
              as_aux_lemma =>
                obtain ⟨i, rfl, hin, HBp⟩ := hrel
                by_cases hlt : i < n
                · obtain ⟨gO, nm, Aj, ln, cj, rfl, hrow, hlc, hcj, hcell⟩ := HC6.out.slot hlt
                  have HROW := Lib.hid hrow
                  have HCELL := Lib.hid hcell
                  unfold maxLen at hcj
                  have d1 : (i : Int) < (n : Int) := by omega
                  have d2 : (0 : Int) ≤ (i : Int) := by omega
                  clear hrow hcell
                  obtain ⟨wo, rfl⟩ : ∃ wo : World, wo = wr := ⟨_, rfl⟩
                  go_wp2_with fail
                  go_loopw [15] (fun t15 wr => ∃ k : Nat, t15 = .int .i64 k ∧ k ≤ ln ∧ Hid (Bumped RO ws.heap.size w6 wr)) (fun t15 _ => ln - (intOf t15).toNat)
                  case atStart => exact ⟨0, rfl, by omega, HBp⟩
                  case round =>
                    as_aux_lemma =>
                      clear HBp
                      obtain ⟨k, rfl, hkl, HBp⟩ := hrel
                      have n1 := HCELL.out wr HBp.out
                      by_cases hk : k < ln
                      · obtain ⟨gj, x, rfl, hgj, hin2, n2, n3⟩ := HBp.out.byte HROW.out hk
                        have HIN := Lib.hid hin2
                        have d3 : (k : Int) < (ln : Int) := by omega
                        have d4 : (0 : Int) ≤ (k : Int) := by omega
                        clear hin2
                        go_upto_region 20 with (fail)
                        refine wp_region_still_tail 16 (by kernel_rfl) (by kernel_rfl) ?_
                        simp only [List.take_succ_cons, List.take_zero, List.drop_succ_cons, List.drop_zero]
                        change wpStill _ _ (wr.drewN 1) _ _ _
                        repeat still_step
                        refine wpStill_nil ?_
                        go_wp2_with fail
                        refine ⟨⟨k + 1, by first | rfl | simp, by omega, by rw [bump_int]; exact (HBp.out.put HIN.out hgj k (x + 1)).drewN 1⟩, by simp [intOf]; omega⟩
                      · have d3 : ¬ (k : Int) < (ln : Int) := by omega
                        go_wp2_with fail
                        refine ⟨⟨i + 1, by first | rfl | simp, by omega, HBp⟩, by simp [intOf]; omega⟩
                · have d1 : ¬ (i : Int) < (n : Int) := by omega
                  go_wp2_with fail
                  go_meet
                  exact HBp
        case rest =>
          have HBp := hcut
          clear hcut hbst
          obtain ⟨w7, rfl⟩ : ∃ w7 : World, w7 = wc := ⟨_, rfl⟩
          have HBW : Hid (Below ws.heap.size ws w7) := HC6.out.below.trans HBp.out.below
          rcases HP5.out with ⟨hne, rfl⟩ | ⟨hok, gn, rfl, hN⟩
          · rcases HP6.out with ⟨_, rfl⟩ | ⟨hok, _⟩
            · clear HP5 HP6 HC6 HC5 HC4 HB6 HB5 HB4 HF4 hne hbb
              go_wp2_with fail
              go_loop [16] (fun t16 => t16 = .int .i64 0) (fun _ => 0)
              case atStart => rfl
              case round =>
                as_aux_lemma =>
                  subst hrel
                  by_cases hz : 0 < q
                  · have d1 : (0 : Int) < (q : Int) := by omega
                    go_wp2_with fail
                    go_ret
                    exact ⟨rfl, HBW.out⟩
                  · have d1 : ¬ (0 : Int) < (q : Int) := by omega
                    go_wp2_with fail
                    go_ret
                    exact ⟨rfl, HBW.out⟩
            · exact absurd hok hne
          · rcases HP6.out with ⟨hne, _⟩ | ⟨_, rn, hrn, rfl, hRf⟩
            · exact absurd hok hne
            · have HP := Lib.hid (play_start HC4.out hN HB6.out hrn HB5.out hRf HBp.out)
              have hbig := Lib.hid (newErr_ok hok).2.1
              have HNM := Lib.hid hfl'
              rw [hn.out] at HNM
              have hz' : zs.length ≤ 1152921504606846976 := by rw [← hm.out]; omega
              clear HP5 HP6 HC6 HC5 HC4 HB6 HB5 HB4 HF4 hbb HBp HBW hrn hRf hN hfl'
              rw [hok]
              clear hok
              generalize RefS ws (.slice AL n cL) = S at HP
              generalize w4.heap.size = lo at HP
              generalize w5.heap.size = hi at HP
              go_wp2_with fail
              go_loopw [16] (fun t16 wr => ∃ i a : Nat, t16 = .int .i64 i ∧ i ≤ q ∧ i ≤ 200 ∧ a ≤ i ∧ Hid (Play S ws gn rn lo hi fs zs a a wr)) (fun t16 _ => 200 - (intOf t16).toNat)
              case atStart => exact ⟨0, 0, rfl, by omega, by omega, by omega, HP⟩
              case round =>
                as_aux_lemma =>
                  clear HP
                  obtain ⟨i, a, rfl, hiq, hi2, hai, HP⟩ := hrel
                  by_cases hlt : i < q ∧ i < 200
                  · obtain ⟨av, hav⟩ : ∃ av, Hid (qs[i]? = some av) := ⟨_, List.getElem?_eq_getElem (by rw [← hq.out]; exact hlt.1)⟩
                    obtain ⟨g, o, rfl, hnm, q1, q2, q3, q4, q5⟩ := HA.out i av hav.out
                    have d1 : (i : Int) < (q : Int) := by omega
                    have d2 : (i : Int) < 200 := by omega
                    have d3 : (0 : Int) ≤ (i : Int) := by omega
                    have r1 := (HP.out.below.cell (World.block_lt_of_cell? ws _ q1)).trans q1
                    have r2 := (HP.out.below.cell (World.block_lt_of_cell? ws _ q2)).trans q2
                    have r3 := (HP.out.below.cell (World.block_lt_of_cell? ws _ q3)).trans q3
                    have r4 := (HP.out.below.cell (World.block_lt_of_cell? ws _ q4)).trans q4
                    clear q1 q2 q3 q4 hlt
                    obtain ⟨kd, nm, fr, ct⟩ := av
                    dsimp only at hnm r1 r2 r3 r4 q5
                    go_upto_region 25 with (fail)
                    have HAB := Lib.hid (Blk.new wr 23 #[.int .i64 kd, .string nm, .int .i64 fr, .int .i64 ct])
                    have HP8 := Lib.hid (HP.out.alloc (.cells #[.int .i64 kd, .string nm, .int .i64 fr, .int .i64 ct] 23))
                    have HGA := Lib.hid HP.out.rn_lt
                    have HGN : Hid (gn < wr.heap.size) := by have h1 := HP.out.net.bounds; have h2 := HP.out.hi_le; show gn < _; omega
                    obtain ⟨ga, hga⟩ : ∃ ga, Hid (ga = wr.heap.size) := ⟨_, rfl⟩
                    rw [← hga.out] at HAB HGA HGN ⊢
                    clear HP r1 r2 r3 r4 hga hav
                    generalize wr.alloc (.cells #[.int .i64 kd, .string nm, .int .i64 fr, .int .i64 ct] 23) = w8 at *
                    have n0 : w8.cell? ⟨ga, 0, none⟩ = some (.int .i64 kd) := HAB.out.cell 0
                    have n1 : w8.cell? ⟨ga, 1, none⟩ = some (.string nm) := HAB.out.cell 1
                    have n2 : w8.cell? ⟨ga, 2, none⟩ = some (.int .i64 fr) := HAB.out.cell 2
                    have n3 : w8.cell? ⟨ga, 3, none⟩ = some (.int .i64 ct) := HAB.out.cell 3
                    go_upto_if 144 with (fail)
                    go_cut [] (fun wx => ∃ a' : Nat, a' ≤ i + 1 ∧ Hid (Play S ws gn rn lo hi fs zs a' a' wx))
                    case first =>
                      as_aux_lemma =>
                        by_cases hkd : kd = 0
                        · subst hkd
                          obtain ⟨sv, hsv⟩ : ∃ sv, Hid (sv = sizeV fs (codeAt zs a) nm) := ⟨_, rfl⟩
                          have HC1 := Lib.hid (play_size S ws gn rn lo hi fs zs a a w8 hz' (by omega) nm hnm HP8.out)
                          rw [← hsv.out] at HC1
                          go_upto_region 27 with (first | (go_at_call 7; refine HC1.out.mono ?_; rintro e w9 ⟨rfl, hp9, hg9⟩; have HP9 := Lib.hid hp9; have HG9 := Lib.hid hg9; clear hp9 hg9) | fail)
                          have HAB9 : Hid (Blk w9 ga 23 #[.int .i64 0, .string nm, .int .i64 fr, .int .i64 ct]) := (HG9.out.block ga HAB.out.lt (fun e => by
                            have e2 : ga = gn := by injection e
                            have := HGN.out
                            omega)).trans HAB.out
                          have m1 : w9.cell? ⟨ga, 1, none⟩ = some (.string nm) := HAB9.out.cell 1
                          have HC2 := Lib.hid (play_refSize S ws gn rn lo hi fs zs (a + 1) a w9 hbig HNM.out hz' (by omega) nm hnm HP9.out)
                          rw [← hsv.out] at HC2
                          clear HC1 hsv HAB HP8 HP9 HG9 n0 n1 n2 n3
                          go_wp2_with (first | (go_at_call 13; refine HC2.out.mono ?_; rintro e w10 ⟨rfl, hp10, hg10⟩; have HP10 := Lib.hid hp10; clear hp10 hg10) | fail)
                          go_meet
                          exact ⟨a + 1, by omega, HP10⟩
                        · have ekd : (kd == 0) = false := by simpa using hkd
                          obtain ⟨gw, hgw⟩ : ∃ gw, Hid (gw = getW fs zs a nm fr ct) := ⟨_, rfl⟩
                          obtain ⟨ln, hln⟩ : ∃ ln, Hid (ln = gw.1.length) := ⟨_, rfl⟩
                          have HC1 := Lib.hid (play_get S ws gn rn lo hi fs zs a a w8 hz' (by omega) nm hnm fr ct q5 HP8.out)
                          rw [← hgw.out, ← hln.out] at HC1
                          go_upto_region 31 with (first | (go_at_call 8; refine HC1.out.mono ?_; rintro e w9 ⟨Ax, rfl, hx9, hp9, hg9⟩; have HX9 := Lib.hid hx9; have HP9 := Lib.hid hp9; have HG9 := Lib.hid hg9; clear hx9 hp9 hg9) | fail)
                          have HAB9 : Hid (Blk w9 ga 23 #[.int .i64 kd, .string nm, .int .i64 fr, .int .i64 ct]) := (HG9.out.block ga HAB.out.lt (fun e => by
                            have e2 : ga = gn := by injection e
                            have := HGN.out
                            omega)).trans HAB.out
                          have m1 : w9.cell? ⟨ga, 1, none⟩ = some (.string nm) := HAB9.out.cell 1
                          have m2 : w9.cell? ⟨ga, 2, none⟩ = some (.int .i64 fr) := HAB9.out.cell 2
                          have m3 : w9.cell? ⟨ga, 3, none⟩ = some (.int .i64 ct) := HAB9.out.cell 3
                          have HC2 := Lib.hid (play_refGet S ws gn rn lo hi fs zs gw.2.2 a w9 hbig HNM.out hz' (by omega) nm hnm fr ct q5 HP9.out)
                          rw [← hgw.out, ← hln.out] at HC2
                          clear HC1 HAB HP8 HP9 HG9 n0 n1 n2 n3
                          go_upto_region 32 with (first | (go_at_call 14; refine HC2.out.mono ?_; rintro e w10 ⟨Ay, cy, rfl, hy10, hp10, hg10⟩; have HP10 := Lib.hid hp10; have HY10 := Lib.hid hy10; have HX10 := Lib.hid (HX9.out.kept hg10); clear hy10 hp10 hg10) | fail)
                          have hcnt : gw.2.2 ≤ i + 1 := by have := getW_count fs zs a nm fr ct; rw [hgw.out]; omega
                          have hl6 : ln ≤ 65536 := by rw [hln.out, hgw.out]; exact getW_len fs zs a nm fr ct
                          obtain ⟨l, hl⟩ : ∃ l, Hid (l = gw.1) := ⟨_, rfl⟩
                          rw [← hl.out] at HY10 HX10 hln
                          generalize gw.2.2 = a2 at *
                          generalize gw.2.1 = er at *
                          clear hl hgw HC2 HX9 HAB9 m1 m2 m3
                          obtain ⟨sx, hsx⟩ : ∃ sx : ByteArray, sx = ⟨l.toArray⟩ := ⟨_, rfl⟩
                          have hcv1 : (convert 33 9 (.slice Ax ln ln)).run Try.prog w10 = .ok (.string sx) w10 := by
                            have h := text_of_B (P := Try.prog) (w := w10) (c := ln) Try.underlying33 Try.underlying5 Try.underlying9 HX10.out.reads
                            rw [← hln.out] at h
                            rw [hsx]
                            exact h
                          have hcv2 : (convert 33 9 (.slice Ay ln cy)).run Try.prog w10 = .ok (.string sx) w10 := by
                            have h := text_of_B (P := Try.prog) (w := w10) (c := cy) Try.underlying33 Try.underlying5 Try.underlying9 HY10.out
                            rw [← hln.out] at h
                            rw [hsx]
                            exact h
                          clear hsx
                          go_upto_region 34 with (fail)
                          clear hcv1 hcv2
                          have hx0 : Hid (∃ l' : List UInt8, l'.length = ln ∧ OwnX rn w10 Ax l') := ⟨l, hln.out.symm, HX10.out⟩
                          clear HX10 HY10 hln
                          go_wp2_with fail
                          go_loopw [26] (fun t26 wr => ∃ k : Nat, t26 = .int .i64 k ∧ k ≤ ln ∧ Hid (Play S ws gn rn lo hi fs zs a2 a2 wr) ∧ Hid (∃ l' : List UInt8, l'.length = ln ∧ OwnX rn wr Ax l')) (fun t26 _ => ln - (intOf t26).toNat)
                          case atStart => exact ⟨0, rfl, by omega, HP10, hx0⟩
                          case round =>
                            as_aux_lemma =>
                              clear HP10 hx0
                              obtain ⟨k, rfl, hkl, HPk, HXk⟩ := hrel
                              by_cases hk : k < ln
                              · obtain ⟨l', hl', hX⟩ := HXk.out
                                obtain ⟨gx, x, rfl, hrx, HBx, x1, x2⟩ := OnwX_cell hX (show k < l'.length by omega)
                                have e1 : (k : Int) < (ln : Int) := by omega
                                have e2 : (0 : Int) ≤ (k : Int) := by omega
                                have HPn := Lib.hid (HPk.out.grown ((Below.refl gx wr).setCell (p := ⟨gx, k, none⟩) (Nat.le_refl _) (.int .u8 9)) hrx)
                                have HXn : Hid (∃ l' : List UInt8, l'.length = ln ∧ OwnX rn (wr.setCell ⟨gx, k, none⟩ (.int .u8 9)) (some ⟨gx, 0, none⟩) l') := ⟨l'.set k 9, by rw [List.length_set]; exact hl', OwnX_put hrx HBx.out k 9⟩
                                clear hX HPk HXk HBx hl'
                                go_wp2_with fail
                                refine ⟨⟨k + 1, by first | rfl | simp, by omega, HPn, HXn⟩, by simp [intOf]; omega⟩
                              · have e1 : ¬ (k : Int) < (ln : Int) := by omega
                                go_wp2_with fail
                                go_meet
                                exact ⟨a2, hcnt, HPk⟩
                    case rest =>
                      obtain ⟨a', ha', HPa⟩ := hcut
                      have hrc := HPa.out.refCount
                      have HASK : Hid (∀ n, Calls Try.prog 9 #[.pointer (some ⟨gn, 0, none⟩)] (wc.drewN n) fun e W' => e = .returned (.int .i64 (a' : Int)) ∧ W' = wc.drewN n) := fun n => play_asked S ws gn rn lo hi fs zs a' a' (wc.drewN n) (HPa.out.drewN n)
                      go_upto_region 38 with (fail)
                      go_quiet ((go_at_call 9; exact Calls.quiet_of_same (HASK.out _)))
                      have HPq := Lib.hid (HPa.out.drewN nq)
                      clear HASK hrc HPa
                      go_wp2_with fail
                      refine ⟨⟨i + 1, a', by first | rfl | simp, by omega, by omega, by omega, HPq⟩, by simp [intOf]; omega⟩
                  · by_cases hq1 : i < q
                    · have d1 : (i : Int) < (q : Int) := by omega
                      have d2 : ¬ (i : Int) < 200 := by omega
                      have HE := Lib.hid HP.out.below
                      go_wp2_with fail
                      go_ret
                      exact ⟨rfl, HE.out⟩
                    · have d1 : ¬ (i : Int) < (q : Int) := by omega
                      have HE := Lib.hid HP.out.below
                      go_wp2_with fail
                      go_ret
                      exact ⟨rfl, HE.out⟩
end Go.Proofs.Ytbldognffppeiaa
