/- The reader's output and pair, walked. -/
import Derived.Test.YtbldognffppeiaaDoorAtRowR
namespace Go.Proofs.YtbldognffppeiaaDoor
open Go.RowKit Quo
set_option linter.unusedSimpArgs false
set_option linter.unusedVariables false
set_option maxHeartbeats 4000000 in
set_option maxRecDepth 1000000 in
theorem output_any (g : Nat) (st : Option (List UInt8)) (w : World) (hg : 1 < g) (hT : Tabs w) (hl : Lim st) (h : RdSt w g st) : Calls Tryd.prog 59 #[.pointer (some ⟨g, 0, none⟩)] w fun e w' => ∃ q : ByteArray × ByteArray × ByteArray, e = .returned (.agg #[.string q.1, .string q.2.1, .string q.2.2]) ∧ RdSt w' g ((st.bind rdOut).map (·.2)) ∧ (∀ p, st.bind rdOut = some p → q = p.1) ∧ Kept g w w' := by
  obtain ⟨gr, hgr⟩ : ∃ gr, Hid (w.heap.size = gr) := ⟨_, rfl⟩
  have hlt : Hid (g < gr) := by rw [← hgr.out]; exact h.lt
  have HK0 : Hid (Kept g w (w.alloc (.cells #[.string ⟨#[]⟩, .string ⟨#[]⟩, .string ⟨#[]⟩] 49))) := (Kept.refl g w).alloc _
  have HB0 : Hid (Blk (w.alloc (.cells #[.string ⟨#[]⟩, .string ⟨#[]⟩, .string ⟨#[]⟩] 49)) gr 49 #[.string ⟨#[]⟩, .string ⟨#[]⟩, .string ⟨#[]⟩]) := by rw [← hgr.out]; exact Blk.new w 49 _
  have HC := Lib.hid (rowR_any 3 (by decide) g st (w.alloc (.cells #[.string ⟨#[]⟩, .string ⟨#[]⟩, .string ⟨#[]⟩] 49)) hg (tabs_kept hT hg HK0.out) hl (h.kept h.lt ((Below.refl _ _).alloc (Nat.le_refl _) _)))
  have hsz : Hid ((w.alloc (.cells #[.string ⟨#[]⟩, .string ⟨#[]⟩, .string ⟨#[]⟩] 49)).heap.size = gr + 1) := by rw [Hid, World.size_alloc, hgr.out]
  clear h hT hl
  go_enter Tryd.func59, Tryd.ntmps59
  go_upto_region 1 with (fail)
  rw [hgr.out]
  generalize w.alloc (.cells #[.string ⟨#[]⟩, .string ⟨#[]⟩, .string ⟨#[]⟩] 49) = W0 at *
  go_upto_region 2 with (first
    | (go_at_call 75; refine HC.out.mono ?_; rintro e w2 ⟨a, qs, rfl, ha0, hb0, hq0, hr0, hk0, hs0⟩; have HA := Lib.hid ha0; have HBK := Lib.hid hb0; have HQL := Lib.hid hq0; have HR2 := Lib.hid hr0; have HK2 := Lib.hid hk0; have HS2 := Lib.hid hs0; clear ha0 hb0 hq0 hr0 hk0 hs0)
    | fail)
  obtain ⟨q0, q1, q2, hqs⟩ : ∃ q0 q1 q2, qs = [q0, q1, q2] := by
    have h1 := HQL.out
    match qs, h1 with
    | [q0, q1, q2], _ => exact ⟨q0, q1, q2, rfl⟩
  subst hqs
  have HB2 : Hid (Blk w2 a 9 #[.string q0, .string q1, .string q2]) := HBK.out
  have hagr : Hid (a ≠ gr) := by have h1 := HA.out; rw [hsz.out] at h1; rw [Hid]; omega
  have HBr : Hid (Blk w2 gr 49 #[.string ⟨#[]⟩, .string ⟨#[]⟩, .string ⟨#[]⟩]) := HB0.out.keptK HK2.out (by have := hlt.out; omega)
  have z0 : w2.drew.cell? ⟨a, 0, none⟩ = some (.string q0) := (HB2.out.cell 0)
  have z1 : w2.drew.cell? ⟨a, 1, none⟩ = some (.string q1) := (HB2.out.cell 1)
  have z2 : w2.drew.cell? ⟨a, 2, none⟩ = some (.string q2) := (HB2.out.cell 2)
  refine Lefts.region (fun _ => True) (fun W => W.cell? ⟨a, 0, none⟩ = some (.string q0) ∧ W.cell? ⟨a, 1, none⟩ = some (.string q1) ∧ W.cell? ⟨a, 2, none⟩ = some (.string q2)) [10] (by kernel_rfl) trivial ⟨z0, z1, z2⟩ (fun hS1 hS => ?_)
  refine Lefts.takeB (i := 0) (u := .slice (some ⟨a, 0, none⟩) 3 3) rfl (by kernel_rfl) (by kernel_rfl) (by kernel_rfl) (by kernel_rfl) (fun _ _ _ h => h) (by first | assumption | trivial) (by assumption) (Or.inl ⟨by rfl, fun W hSW => by obtain ⟨y0, y1, y2⟩ := hSW; go_simp⟩) ?_
  simp only [Act.put, List.setIfInBounds_toArray, List.set_cons_zero, List.set_cons_succ]
  refine Lefts.takeB (i := 1) (u := .pointer (some ⟨a, 0, none⟩)) rfl (by kernel_rfl) (by kernel_rfl) (by kernel_rfl) (by kernel_rfl) (fun _ _ _ h => h) (by first | assumption | trivial) (by assumption) (Or.inl ⟨by rfl, fun W hSW => by obtain ⟨y0, y1, y2⟩ := hSW; go_simp⟩) ?_
  simp only [Act.put, List.setIfInBounds_toArray, List.set_cons_zero, List.set_cons_succ]
  refine Lefts.takeB (i := 2) (u := .string q0) rfl (by kernel_rfl) (by kernel_rfl) (by kernel_rfl) (by kernel_rfl) (fun _ _ _ h => h) (by first | assumption | trivial) (by assumption) (Or.inl ⟨by rfl, fun W hSW => by obtain ⟨y0, y1, y2⟩ := hSW; go_simp⟩) ?_
  simp only [Act.put, List.setIfInBounds_toArray, List.set_cons_zero, List.set_cons_succ]
  refine Lefts.takeB (i := 3) (u := .slice (some ⟨a, 0, none⟩) 3 3) rfl (by kernel_rfl) (by kernel_rfl) (by kernel_rfl) (by kernel_rfl) (fun _ _ _ h => h) (by first | assumption | trivial) (by assumption) (Or.inl ⟨by rfl, fun W hSW => by obtain ⟨y0, y1, y2⟩ := hSW; go_simp⟩) ?_
  simp only [Act.put, List.setIfInBounds_toArray, List.set_cons_zero, List.set_cons_succ]
  refine Lefts.takeB (i := 4) (u := .pointer (some ⟨a, 1, none⟩)) rfl (by kernel_rfl) (by kernel_rfl) (by kernel_rfl) (by kernel_rfl) (fun _ _ _ h => h) (by first | assumption | trivial) (by assumption) (Or.inl ⟨by rfl, fun W hSW => by obtain ⟨y0, y1, y2⟩ := hSW; go_simp⟩) ?_
  simp only [Act.put, List.setIfInBounds_toArray, List.set_cons_zero, List.set_cons_succ]
  refine Lefts.takeB (i := 5) (u := .string q1) rfl (by kernel_rfl) (by kernel_rfl) (by kernel_rfl) (by kernel_rfl) (fun _ _ _ h => h) (by first | assumption | trivial) (by assumption) (Or.inl ⟨by rfl, fun W hSW => by obtain ⟨y0, y1, y2⟩ := hSW; go_simp⟩) ?_
  simp only [Act.put, List.setIfInBounds_toArray, List.set_cons_zero, List.set_cons_succ]
  refine Lefts.takeB (i := 6) (u := .slice (some ⟨a, 0, none⟩) 3 3) rfl (by kernel_rfl) (by kernel_rfl) (by kernel_rfl) (by kernel_rfl) (fun _ _ _ h => h) (by first | assumption | trivial) (by assumption) (Or.inl ⟨by rfl, fun W hSW => by obtain ⟨y0, y1, y2⟩ := hSW; go_simp⟩) ?_
  simp only [Act.put, List.setIfInBounds_toArray, List.set_cons_zero, List.set_cons_succ]
  refine Lefts.takeB (i := 7) (u := .pointer (some ⟨a, 2, none⟩)) rfl (by kernel_rfl) (by kernel_rfl) (by kernel_rfl) (by kernel_rfl) (fun _ _ _ h => h) (by first | assumption | trivial) (by assumption) (Or.inl ⟨by rfl, fun W hSW => by obtain ⟨y0, y1, y2⟩ := hSW; go_simp⟩) ?_
  simp only [Act.put, List.setIfInBounds_toArray, List.set_cons_zero, List.set_cons_succ]
  refine Lefts.takeB (i := 8) (u := .string q2) rfl (by kernel_rfl) (by kernel_rfl) (by kernel_rfl) (by kernel_rfl) (fun _ _ _ h => h) (by first | assumption | trivial) (by assumption) (Or.inl ⟨by rfl, fun W hSW => by obtain ⟨y0, y1, y2⟩ := hSW; go_simp⟩) ?_
  simp only [Act.put, List.setIfInBounds_toArray, List.set_cons_zero, List.set_cons_succ]
  refine Lefts.takeB (i := 9) (u := .agg #[.string q0, .string q1, .string q2]) rfl (by kernel_rfl) (by kernel_rfl) (by kernel_rfl) (by kernel_rfl) (fun _ _ _ h => h) (by first | assumption | trivial) (by assumption) (Or.inl ⟨by rfl, fun W hSW => by obtain ⟨y0, y1, y2⟩ := hSW; go_simp⟩) ?_
  simp only [Act.put, List.setIfInBounds_toArray, List.set_cons_zero, List.set_cons_succ]
  refine Lefts.one (i := 10) (by kernel_rfl) rfl (fun K hK => ?_)
  rw [if_pos (by rfl)]
  refine wp_store_row 49 (.tmp 2) (.tmp 15) rfl gr #[.string q0, .string q1, .string q2] rfl rfl 49 _ (show w2.drew.heap[gr]? = _ from HBr.out) (by kernel_rfl) rfl (by simp [Value.oneCell']) ?_
  refine hK.out _ _ ⟨trivial, fun h => by cases h⟩ ?_
  clear hK K hS hS1 z0 z1 z2
  try simp only [Act.put, List.setIfInBounds_toArray, List.set_cons_zero, List.set_cons_succ]
  refine Lefts.done (by kernel_rfl) ?_ _
  have HBd : Hid (Blk w2.drew gr 49 #[.string ⟨#[]⟩, .string ⟨#[]⟩, .string ⟨#[]⟩]) := HBr.out
  have HBf : Hid (Blk (w2.drew.setRow gr #[.string q0, .string q1, .string q2]) gr 49 #[.string q0, .string q1, .string q2]) := HBd.out.row _
  have HRf : Hid (RdSt (w2.drew.setRow gr #[.string q0, .string q1, .string q2]) g ((st.bind (rowR 3)).map (·.2))) := by
    have h1 := HR2.out
    cases hst : (st.bind (rowR 3)).map (·.2) with
    | none => rw [hst] at h1; obtain ⟨s, ne, h1⟩ := h1; exact ⟨s, ne, Blk.rowFar (show Blk w2.drew _ _ _ from h1) (by have := hlt.out; omega) _⟩
    | some l => rw [hst] at h1; exact Blk.rowFar (show Blk w2.drew _ _ _ from h1) (by have := hlt.out; omega) _
  have HKf : Hid (Kept g w (w2.drew.setRow gr #[.string q0, .string q1, .string q2])) := (HK0.out.trans HK2.out).belowB (below_setRow (below_drewN' (Below.refl w.heap.size w2) 1) (by rw [hgr.out]; exact Nat.le_refl _) _) (Nat.le_refl _)
  generalize w2.drew.setRow gr #[.string q0, .string q1, .string q2] = w3 at *
  go_wp2_with fail
  first
    | refine bodyPost_end (results_cell_row rfl _ _ gr 49 #[.string q0, .string q1, .string q2] (0, 0) _ rfl HBf.out Tryd.underlying49 rfl (by kernel_rfl)) rfl ?_
    | refine bodyPost_ret (results_cell_row rfl _ _ gr 49 #[.string q0, .string q1, .string q2] (0, 0) _ rfl HBf.out Tryd.underlying49 rfl (by kernel_rfl)) rfl ?_
  have hfin : st.bind rdOut = (st.bind (rowR 3)).map fun p => ((q0, q1, q2), p.2) := by
    cases hst : st with
    | none => rfl
    | some l =>
      show rdOut l = Option.map _ (rowR 3 l)
      rw [rdOut_row]
      cases hrw : rowR 3 l with
      | none => rfl
      | some p =>
        have h1 := HS2.out p (by rw [hst]; exact hrw)
        show (match p.1 with | [a, b, c] => some ((a, b, c), p.2) | _ => none) = _
        rw [← h1]
        rfl
  rw [hfin]
  refine ⟨(q0, q1, q2), rfl, ?_, fun p e => ?_, HKf.out⟩
  · have h1 := HRf.out
    cases hst : st.bind (rowR 3) with
    | none => rw [hst] at h1; exact h1
    | some p => rw [hst] at h1; exact h1
  · obtain ⟨p', _, e⟩ := Option.map_eq_some_iff.1 e
    rw [← e]
set_option maxHeartbeats 4000000 in
set_option maxRecDepth 1000000 in
theorem pair_any (g : Nat) (st : Option (List UInt8)) (w : World) (hg : 1 < g) (hT : Tabs w) (hl : Lim st) (h : RdSt w g st) : Calls Tryd.prog 65 #[.pointer (some ⟨g, 0, none⟩)] w fun e w' => ∃ q : ByteArray × ByteArray, e = .returned (.agg #[.string q.1, .string q.2]) ∧ RdSt w' g ((st.bind rdEnv).map (·.2)) ∧ (∀ p, st.bind rdEnv = some p → q = p.1) ∧ Kept g w w' := by
  obtain ⟨gr, hgr⟩ : ∃ gr, Hid (w.heap.size = gr) := ⟨_, rfl⟩
  have hlt : Hid (g < gr) := by rw [← hgr.out]; exact h.lt
  have HK0 : Hid (Kept g w (w.alloc (.cells #[.string ⟨#[]⟩, .string ⟨#[]⟩] 70))) := (Kept.refl g w).alloc _
  have HB0 : Hid (Blk (w.alloc (.cells #[.string ⟨#[]⟩, .string ⟨#[]⟩] 70)) gr 70 #[.string ⟨#[]⟩, .string ⟨#[]⟩]) := by rw [← hgr.out]; exact Blk.new w 70 _
  have HC := Lib.hid (rowR_any 2 (by decide) g st (w.alloc (.cells #[.string ⟨#[]⟩, .string ⟨#[]⟩] 70)) hg (tabs_kept hT hg HK0.out) hl (h.kept h.lt ((Below.refl _ _).alloc (Nat.le_refl _) _)))
  have hsz : Hid ((w.alloc (.cells #[.string ⟨#[]⟩, .string ⟨#[]⟩] 70)).heap.size = gr + 1) := by rw [Hid, World.size_alloc, hgr.out]
  clear h hT hl
  go_enter Tryd.func65, Tryd.ntmps65
  go_upto_region 1 with (fail)
  rw [hgr.out]
  generalize w.alloc (.cells #[.string ⟨#[]⟩, .string ⟨#[]⟩] 70) = W0 at *
  go_upto_region 2 with (first
    | (go_at_call 75; refine HC.out.mono ?_; rintro e w2 ⟨a, qs, rfl, ha0, hb0, hq0, hr0, hk0, hs0⟩; have HA := Lib.hid ha0; have HBK := Lib.hid hb0; have HQL := Lib.hid hq0; have HR2 := Lib.hid hr0; have HK2 := Lib.hid hk0; have HS2 := Lib.hid hs0; clear ha0 hb0 hq0 hr0 hk0 hs0)
    | fail)
  obtain ⟨q0, q1, hqs⟩ : ∃ q0 q1, qs = [q0, q1] := by
    have h1 := HQL.out
    match qs, h1 with
    | [q0, q1], _ => exact ⟨q0, q1, rfl⟩
  subst hqs
  have HB2 : Hid (Blk w2 a 9 #[.string q0, .string q1]) := HBK.out
  have hagr : Hid (a ≠ gr) := by have h1 := HA.out; rw [hsz.out] at h1; rw [Hid]; omega
  have HBr : Hid (Blk w2 gr 70 #[.string ⟨#[]⟩, .string ⟨#[]⟩]) := HB0.out.keptK HK2.out (by have := hlt.out; omega)
  have z0 : w2.drew.cell? ⟨a, 0, none⟩ = some (.string q0) := (HB2.out.cell 0)
  have z1 : w2.drew.cell? ⟨a, 1, none⟩ = some (.string q1) := (HB2.out.cell 1)
  refine Lefts.region (fun _ => True) (fun W => W.cell? ⟨a, 0, none⟩ = some (.string q0) ∧ W.cell? ⟨a, 1, none⟩ = some (.string q1)) [7] (by kernel_rfl) trivial ⟨z0, z1⟩ (fun hS1 hS => ?_)
  refine Lefts.takeB (i := 0) (u := .slice (some ⟨a, 0, none⟩) 2 2) rfl (by kernel_rfl) (by kernel_rfl) (by kernel_rfl) (by kernel_rfl) (fun _ _ _ h => h) (by first | assumption | trivial) (by assumption) (Or.inl ⟨by rfl, fun W hSW => by obtain ⟨y0, y1⟩ := hSW; go_simp⟩) ?_
  simp only [Act.put, List.setIfInBounds_toArray, List.set_cons_zero, List.set_cons_succ]
  refine Lefts.takeB (i := 1) (u := .pointer (some ⟨a, 0, none⟩)) rfl (by kernel_rfl) (by kernel_rfl) (by kernel_rfl) (by kernel_rfl) (fun _ _ _ h => h) (by first | assumption | trivial) (by assumption) (Or.inl ⟨by rfl, fun W hSW => by obtain ⟨y0, y1⟩ := hSW; go_simp⟩) ?_
  simp only [Act.put, List.setIfInBounds_toArray, List.set_cons_zero, List.set_cons_succ]
  refine Lefts.takeB (i := 2) (u := .string q0) rfl (by kernel_rfl) (by kernel_rfl) (by kernel_rfl) (by kernel_rfl) (fun _ _ _ h => h) (by first | assumption | trivial) (by assumption) (Or.inl ⟨by rfl, fun W hSW => by obtain ⟨y0, y1⟩ := hSW; go_simp⟩) ?_
  simp only [Act.put, List.setIfInBounds_toArray, List.set_cons_zero, List.set_cons_succ]
  refine Lefts.takeB (i := 3) (u := .slice (some ⟨a, 0, none⟩) 2 2) rfl (by kernel_rfl) (by kernel_rfl) (by kernel_rfl) (by kernel_rfl) (fun _ _ _ h => h) (by first | assumption | trivial) (by assumption) (Or.inl ⟨by rfl, fun W hSW => by obtain ⟨y0, y1⟩ := hSW; go_simp⟩) ?_
  simp only [Act.put, List.setIfInBounds_toArray, List.set_cons_zero, List.set_cons_succ]
  refine Lefts.takeB (i := 4) (u := .pointer (some ⟨a, 1, none⟩)) rfl (by kernel_rfl) (by kernel_rfl) (by kernel_rfl) (by kernel_rfl) (fun _ _ _ h => h) (by first | assumption | trivial) (by assumption) (Or.inl ⟨by rfl, fun W hSW => by obtain ⟨y0, y1⟩ := hSW; go_simp⟩) ?_
  simp only [Act.put, List.setIfInBounds_toArray, List.set_cons_zero, List.set_cons_succ]
  refine Lefts.takeB (i := 5) (u := .string q1) rfl (by kernel_rfl) (by kernel_rfl) (by kernel_rfl) (by kernel_rfl) (fun _ _ _ h => h) (by first | assumption | trivial) (by assumption) (Or.inl ⟨by rfl, fun W hSW => by obtain ⟨y0, y1⟩ := hSW; go_simp⟩) ?_
  simp only [Act.put, List.setIfInBounds_toArray, List.set_cons_zero, List.set_cons_succ]
  refine Lefts.takeB (i := 6) (u := .agg #[.string q0, .string q1]) rfl (by kernel_rfl) (by kernel_rfl) (by kernel_rfl) (by kernel_rfl) (fun _ _ _ h => h) (by first | assumption | trivial) (by assumption) (Or.inl ⟨by rfl, fun W hSW => by obtain ⟨y0, y1⟩ := hSW; go_simp⟩) ?_
  simp only [Act.put, List.setIfInBounds_toArray, List.set_cons_zero, List.set_cons_succ]
  refine Lefts.one (i := 7) (by kernel_rfl) rfl (fun K hK => ?_)
  rw [if_pos (by rfl)]
  refine wp_store_row 70 (.tmp 2) (.tmp 12) rfl gr #[.string q0, .string q1] rfl rfl 70 _ (show w2.drew.heap[gr]? = _ from HBr.out) (by kernel_rfl) rfl (by simp [Value.oneCell']) ?_
  refine hK.out _ _ ⟨trivial, fun h => by cases h⟩ ?_
  clear hK K hS hS1 z0 z1
  try simp only [Act.put, List.setIfInBounds_toArray, List.set_cons_zero, List.set_cons_succ]
  refine Lefts.done (by kernel_rfl) ?_ _
  have HBd : Hid (Blk w2.drew gr 70 #[.string ⟨#[]⟩, .string ⟨#[]⟩]) := HBr.out
  have HBf : Hid (Blk (w2.drew.setRow gr #[.string q0, .string q1]) gr 70 #[.string q0, .string q1]) := HBd.out.row _
  have HRf : Hid (RdSt (w2.drew.setRow gr #[.string q0, .string q1]) g ((st.bind (rowR 2)).map (·.2))) := by
    have h1 := HR2.out
    cases hst : (st.bind (rowR 2)).map (·.2) with
    | none => rw [hst] at h1; obtain ⟨s, ne, h1⟩ := h1; exact ⟨s, ne, Blk.rowFar (show Blk w2.drew _ _ _ from h1) (by have := hlt.out; omega) _⟩
    | some l => rw [hst] at h1; exact Blk.rowFar (show Blk w2.drew _ _ _ from h1) (by have := hlt.out; omega) _
  have HKf : Hid (Kept g w (w2.drew.setRow gr #[.string q0, .string q1])) := (HK0.out.trans HK2.out).belowB (below_setRow (below_drewN' (Below.refl w.heap.size w2) 1) (by rw [hgr.out]; exact Nat.le_refl _) _) (Nat.le_refl _)
  generalize w2.drew.setRow gr #[.string q0, .string q1] = w3 at *
  go_wp2_with fail
  first
    | refine bodyPost_end (results_cell_row rfl _ _ gr 70 #[.string q0, .string q1] (0, 0) _ rfl HBf.out Tryd.underlying70 rfl (by kernel_rfl)) rfl ?_
    | refine bodyPost_ret (results_cell_row rfl _ _ gr 70 #[.string q0, .string q1] (0, 0) _ rfl HBf.out Tryd.underlying70 rfl (by kernel_rfl)) rfl ?_
  have hfin : st.bind rdEnv = (st.bind (rowR 2)).map fun p => ((q0, q1), p.2) := by
    cases hst : st with
    | none => rfl
    | some l =>
      show rdEnv l = Option.map _ (rowR 2 l)
      rw [rdEnv_row]
      cases hrw : rowR 2 l with
      | none => rfl
      | some p =>
        have h1 := HS2.out p (by rw [hst]; exact hrw)
        show (match p.1 with | [a, b] => some ((a, b), p.2) | _ => none) = _
        rw [← h1]
        rfl
  rw [hfin]
  refine ⟨(q0, q1), rfl, ?_, fun p e => ?_, HKf.out⟩
  · have h1 := HRf.out
    cases hst : st.bind (rowR 2) with
    | none => rw [hst] at h1; exact h1
    | some p => rw [hst] at h1; exact h1
  · obtain ⟨p', _, e⟩ := Option.map_eq_some_iff.1 e
    rw [← e]
end Go.Proofs.YtbldognffppeiaaDoor
