/- The reader's input, walked. -/
import Derived.Test.YtbldognffppeiaaDoorAtRowR
import Derived.Test.YtbldognffppeiaaDoorAtEach
namespace Go.Proofs.YtbldognffppeiaaDoor
open Go.RowKit Quo
set_option linter.unusedSimpArgs false
set_option linter.unusedVariables false
theorem rdIn_chain (st : Option (List UInt8)) : (st.bind rdIn).map (·.2) = ((((((st.bind (eat [40])).bind rdS).map (·.2)).bind (eat [44])).bind (eachR rdS)).map (·.2)).bind (eat [41]) ∧ ∀ p, st.bind rdIn = some p → ∃ p1 p2, (st.bind (eat [40])).bind rdS = some p1 ∧ ((((st.bind (eat [40])).bind rdS).map (·.2)).bind (eat [44])).bind (eachR rdS) = some p2 ∧ p.1 = (p1.1, p2.1) := by
  cases st with
  | none => exact ⟨rfl, fun p e => by cases e⟩
  | some l =>
    show (rdIn l).map _ = ((((((eat [40] l).bind rdS).map (·.2)).bind (eat [44])).bind (eachR rdS)).map (·.2)).bind (eat [41]) ∧ ∀ p, rdIn l = some p → ∃ p1 p2, (eat [40] l).bind rdS = some p1 ∧ ((((eat [40] l).bind rdS).map (·.2)).bind (eat [44])).bind (eachR rdS) = some p2 ∧ p.1 = (p1.1, p2.1)
    unfold rdIn
    cases eat [40] l with
    | none => exact ⟨rfl, fun p e => by cases e⟩
    | some l1 =>
      simp only [Option.bind_some]
      cases rdS l1 with
      | none => exact ⟨rfl, fun p e => by cases e⟩
      | some p1 =>
        simp only [Option.bind_some, Option.map_some]
        cases eat [44] p1.2 with
        | none => exact ⟨rfl, fun p e => by cases e⟩
        | some l2 =>
          simp only [Option.bind_some]
          cases eachR rdS l2 with
          | none => exact ⟨rfl, fun p e => by cases e⟩
          | some p2 =>
            simp only [Option.bind_some, Option.map_some]
            cases eat [41] p2.2 with
            | none => exact ⟨rfl, fun p e => by cases e⟩
            | some l3 => exact ⟨rfl, fun p e => by injection e with e; subst e; exact ⟨p1, p2, rfl, rfl, rfl⟩⟩
theorem eachS_reads : Reads (eachR rdS) (listT quoS) := eachR_reads rdS_reads quoS_head
set_option maxHeartbeats 4000000 in
set_option maxRecDepth 1000000 in
theorem input_any (g : Nat) (st : Option (List UInt8)) (w : World) (hg : 1 < g) (hT : Tabs w) (hl : Lim st) (h : RdSt w g st) : Calls Tryd.prog 61 #[.pointer (some ⟨g, 0, none⟩)] w fun e w' => ∃ q A n c, e = .returned (.agg #[.string q, .slice A n c]) ∧ RdSt w' g ((st.bind rdIn).map (·.2)) ∧ Kept g w w' ∧ (∀ p, st.bind rdIn = some p → q = p.1.1 ∧ n = p.1.2.length ∧ w'.ownsRow w.heap.size 9 1 (.slice A n c) n (p.1.2.map Value.string)) := by
  obtain ⟨gr, hgr⟩ : ∃ gr, Hid (w.heap.size = gr) := ⟨_, rfl⟩
  have hlt : Hid (g < gr) := by rw [← hgr.out]; exact h.lt
  have hne : Hid (gr ≠ g) := by have := hlt.out; rw [Hid]; omega
  have HCH := Lib.hid (rdIn_chain st)
  obtain ⟨s1, hs1⟩ : ∃ s1, Hid (st.bind (eat [40]) = s1) := ⟨_, rfl⟩
  obtain ⟨P1, hP1⟩ : ∃ P1, Hid (s1.bind rdS = P1) := ⟨_, rfl⟩
  obtain ⟨s2, hs2⟩ : ∃ s2, Hid (P1.map (·.2) = s2) := ⟨_, rfl⟩
  obtain ⟨s3, hs3⟩ : ∃ s3, Hid (s2.bind (eat [44]) = s3) := ⟨_, rfl⟩
  obtain ⟨P2, hP2⟩ : ∃ P2, Hid (s3.bind (eachR rdS) = P2) := ⟨_, rfl⟩
  obtain ⟨s4, hs4⟩ : ∃ s4, Hid (P2.map (·.2) = s4) := ⟨_, rfl⟩
  obtain ⟨s5, hs5⟩ : ∃ s5, Hid (s4.bind (eat [41]) = s5) := ⟨_, rfl⟩
  have l1 : Hid (Lim s1) := by rw [← hs1.out]; exact hl.eat [40]
  have l2 : Hid (Lim s2) := by rw [← hs2.out, ← hP1.out]; exact l1.out.rd rdS_reads
  have l3 : Hid (Lim s3) := by rw [← hs3.out]; exact l2.out.eat [44]
  rw [hs1.out, hP1.out, hs2.out, hs3.out, hP2.out, hs4.out, hs5.out] at HCH
  have HK0 : Hid (Kept g w (w.alloc (.cells #[.string ⟨#[]⟩, .slice none 0 0] 61))) := (Kept.refl g w).alloc _
  have HB0 : Hid (Blk (w.alloc (.cells #[.string ⟨#[]⟩, .slice none 0 0] 61)) gr 61 #[.string ⟨#[]⟩, .slice none 0 0]) := by rw [← hgr.out]; exact Blk.new w 61 _
  have HR0 : Hid (RdSt (w.alloc (.cells #[.string ⟨#[]⟩, .slice none 0 0] 61)) g st) := h.kept h.lt ((Below.refl _ _).alloc (Nat.le_refl _) _)
  have HT := Lib.hid hT
  clear h hT hl
  go_enter Tryd.func61, Tryd.ntmps61
  go_upto_region 1 with (fail)
  rw [hgr.out]
  generalize w.alloc (.cells #[.string ⟨#[]⟩, .slice none 0 0] 61) = W0 at *
  have HC1 := Lib.hid (take_any [40] g st W0 HR0.out)
  rw [hs1.out] at HC1
  go_upto_region 2 with (first
    | (go_at_call 57; refine HC1.out.mono ?_; rintro e w1 ⟨rfl, hr, hk⟩; have HR1 := Lib.hid hr; have HK1 := Lib.hid (HK0.out.trans hk); have HB1 := Lib.hid (HB0.out.keptK hk hne.out); clear hr hk)
    | fail)
  clear HC1 HK0 HB0 HR0
  have HC2 := Lib.hid (quoted_any g s1 w1 hg (tabs_kept HT.out hg HK1.out) l1.out HR1.out)
  rw [hP1.out, hs2.out] at HC2
  go_upto_region 3 with (first
    | (go_at_call 63; refine HC2.out.mono ?_; rintro e w2 ⟨q, rfl, hr, hq, hk⟩; have HR2 := Lib.hid hr; have HQ := Lib.hid hq; have HK2 := Lib.hid (HK1.out.trans hk); have HB2 := Lib.hid (HB1.out.keptK hk hne.out); have y1 : w2.cell? ⟨gr, 0, none⟩ = some (.string ⟨#[]⟩) := HB2.out.cell 0; have y2 : w2.frozen? ⟨gr, 0, none⟩ = false := HB2.out.frozen 0; clear hr hk hq)
    | fail)
  clear HC2 HK1 HB1 HR1 y1 y2
  have HB3 : Hid (Blk (w2.setCell ⟨gr, 0, none⟩ (.string q)) gr 61 #[.string q, .slice none 0 0]) := HB2.out.set_ 0 _
  have HR3 : Hid (RdSt (w2.setCell ⟨gr, 0, none⟩ (.string q)) g s2) := HR2.out.far (show g ≠ gr from fun e => hne.out e.symm) _
  have HK3 : Hid (Kept g w (w2.setCell ⟨gr, 0, none⟩ (.string q))) := HK2.out.belowB ((Below.refl w.heap.size w2).setCell (p := ⟨gr, 0, none⟩) (by rw [hgr.out]; exact Nat.le_refl _) _) (Nat.le_refl _)
  clear HB2 HR2 HK2
  generalize w2.setCell ⟨gr, 0, none⟩ (.string q) = W3 at *
  have HC3 := Lib.hid (take_any [44] g s2 W3 HR3.out)
  rw [hs3.out] at HC3
  go_upto_region 4 with (first
    | (go_at_call 57; refine HC3.out.mono ?_; rintro e w4 ⟨rfl, hr, hk⟩; have HR4 := Lib.hid hr; have HK4 := Lib.hid (HK3.out.trans hk); have HB4 := Lib.hid (HB3.out.keptK hk hne.out); clear hr hk)
    | fail)
  clear HC3 HB3 HR3 HK3
  have HC4 := Lib.hid (eachS_any g s3 w4 hg (tabs_kept HT.out hg HK4.out) l3.out HR4.out)
  rw [hP2.out, hs4.out] at HC4
  have hb4 := Lib.hid HB4.out.lt
  go_upto_region 5 with (first
    | (go_at_call 62; refine HC4.out.mono ?_; rintro e w5 ⟨A, n, c, rfl, hr, hk, hq⟩; have HR5 := Lib.hid hr; have HO5 := Lib.hid hq; have HK5 := Lib.hid (HK4.out.trans hk); have HB5 := Lib.hid (HB4.out.keptK hk hne.out); have y1 : w5.cell? ⟨gr, 1, none⟩ = some (.slice none 0 0) := HB5.out.cell 1; have y2 : w5.frozen? ⟨gr, 1, none⟩ = false := HB5.out.frozen 1; clear hr hk hq)
    | fail)
  clear HC4 HB4 HR4 y1 y2
  have HB6 : Hid (Blk (w5.setCell ⟨gr, 1, none⟩ (.slice A n c)) gr 61 #[.string q, .slice A n c]) := HB5.out.set_ 1 _
  have HR6 : Hid (RdSt (w5.setCell ⟨gr, 1, none⟩ (.slice A n c)) g s4) := HR5.out.far (show g ≠ gr from fun e => hne.out e.symm) _
  have HK6 : Hid (Kept g w (w5.setCell ⟨gr, 1, none⟩ (.slice A n c))) := HK5.out.belowB ((Below.refl w.heap.size w5).setCell (p := ⟨gr, 1, none⟩) (by rw [hgr.out]; exact Nat.le_refl _) _) (Nat.le_refl _)
  have HO6 : Hid (∀ p, P2 = some p → n = p.1.length ∧ (w5.setCell ⟨gr, 1, none⟩ (.slice A n c)).ownsRow w4.heap.size 9 1 (.slice A n c) n (p.1.map Value.string)) := fun p e => ⟨(HO5.out p e).1, own_set (HO5.out p e).2 hb4.out _⟩
  clear HB5 HR5 HK5 HO5
  generalize w5.setCell ⟨gr, 1, none⟩ (.slice A n c) = W6 at *
  have HC5 := Lib.hid (take_any [41] g s4 W6 HR6.out)
  rw [hs5.out] at HC5
  have hg4 : Hid (g < w4.heap.size) := by have h1 := hlt.out; have h2 := hb4.out; rw [Hid]; omega
  go_upto_region 6 with (first
    | (go_at_call 57; refine HC5.out.mono ?_; rintro e w7 ⟨rfl, hr, hk⟩; have HR7 := Lib.hid hr; have HK7 := Lib.hid (HK6.out.trans hk); have HB7 := Lib.hid (HB6.out.keptK hk hne.out); have HO7 : Hid (∀ p, P2 = some p → n = p.1.length ∧ w7.ownsRow w4.heap.size 9 1 (.slice A n c) n (p.1.map Value.string)) := (fun p e => ⟨(HO6.out p e).1, own_keptK (HO6.out p e).2 hg4.out hk⟩); clear hr hk)
    | fail)
  clear HC5 HB6 HR6 HK6 HO6
  have hK7 : Hid (w7.heap[gr]? = some (.cells #[.string q, .slice A n c] 61 (0, 0))) := HB7.out
  have HB8 : Hid (Blk (w7.setRow gr #[.string q, .slice A n c]) gr 61 #[.string q, .slice A n c]) := HB7.out.row _
  have HR8 : Hid (RdSt (w7.setRow gr #[.string q, .slice A n c]) g s5) := by
    have h1 := HR7.out
    have h2 := hne.out
    cases s5 with
    | none => obtain ⟨s, ne, h1⟩ := h1; exact ⟨s, ne, h1.rowFar (fun e => h2 e.symm) _⟩
    | some l => exact Blk.rowFar h1 (fun e => h2 e.symm) _
  have HK8 : Hid (Kept g w (w7.setRow gr #[.string q, .slice A n c])) := HK7.out.belowB (below_setRow (Below.refl w.heap.size w7) (by rw [hgr.out]; exact Nat.le_refl _) _) (Nat.le_refl _)
  have HO8 : Hid (∀ p, P2 = some p → n = p.1.length ∧ (w7.setRow gr #[.string q, .slice A n c]).ownsRow w.heap.size 9 1 (.slice A n c) n (p.1.map Value.string)) := fun p e => ⟨(HO7.out p e).1, own_weaken (own_row (HO7.out p e).2 hb4.out _) HK4.out.size⟩
  go_wp2_with (first
    | refine wpList_load_row rfl 61 (.tmp 2) rfl gr rfl 61 #[.string q, .slice A n c] (0, 0) _ hK7.out Tryd.underlying61 rfl (by kernel_rfl) ?_
    | refine wpList_store_row rfl 61 (.tmp 2) (.tmp 15) rfl gr #[.string q, .slice A n c] rfl rfl 61 _ hK7.out (by kernel_rfl) rfl (by simp [Value.oneCell']) ?_
    | fail)
  first
    | refine bodyPost_end (results_cell_row rfl _ _ gr 61 #[.string q, .slice A n c] (0, 0) _ rfl HB8.out Tryd.underlying61 rfl (by kernel_rfl)) rfl ?_
    | refine bodyPost_ret (results_cell_row rfl _ _ gr 61 #[.string q, .slice A n c] (0, 0) _ rfl HB8.out Tryd.underlying61 rfl (by kernel_rfl)) rfl ?_
  refine ⟨q, A, n, c, rfl, by rw [HCH.out.1]; exact HR8.out, HK8.out, fun p e => ?_⟩
  obtain ⟨p1, p2, h1, h2, h3⟩ := HCH.out.2 p e
  have h4 := HO8.out p2 h2
  rw [h3]
  exact ⟨HQ.out p1 h1, h4.1, h4.2⟩
end Go.Proofs.YtbldognffppeiaaDoor
