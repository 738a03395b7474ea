/- The reader's fail and take, walked. -/
import Derived.Test.YtbldognffppeiaaDoorAtRd
namespace Go.Proofs.YtbldognffppeiaaDoor
open Go.RowKit Quo
set_option linter.unusedSimpArgs false
set_option linter.unusedVariables false
/-- What is wrong, and where. -/
def errV (n : Nat) : Value := .iface 87 (.agg #[.int .i64 (n : Int)])
/-- A reader in memory: what is left of its text, or a fault. -/
def RdSt (w : World) (g : Nat) : Option (List UInt8) → Prop
  | some l => Blk w g 84 #[.string (tx l), .nilIface]
  | none => ∃ s n, Blk w g 84 #[.string s, errV n]
theorem RdSt.kept {w w' : World} {g b : Nat} {st : Option (List UInt8)} (h : RdSt w g st) (hg : g < b) (hb : Below b w w') : RdSt w' g st := by
  cases st with
  | none => obtain ⟨s, n, h⟩ := h; exact ⟨s, n, h.below hb hg⟩
  | some l => exact Blk.below h hb hg
theorem RdSt.lt {w : World} {g : Nat} {st : Option (List UInt8)} (h : RdSt w g st) : g < w.heap.size := by
  cases st with
  | none => obtain ⟨s, n, h⟩ := h; exact h.lt
  | some l => exact Blk.lt h
set_option maxHeartbeats 1000000 in
theorem fail_any (g : Nat) (st : Option (List UInt8)) (w : World) (h : RdSt w g st) : Calls Tryd.prog 45 #[.pointer (some ⟨g, 0, none⟩)] w fun e w' => e = .returned (.tuple #[]) ∧ RdSt w' g none ∧ Kept g w w' := by
  cases st with
  | none =>
    obtain ⟨s, n, h⟩ := h
    have H := Lib.hid h
    have p0 := h.cell 0
    have p1 : w.cell? ⟨g, 1, none⟩ = some (.iface 87 (.agg #[.int .i64 (n : Int)])) := h.cell 1
    clear h
    go_enter Tryd.func45, Tryd.ntmps45
    go_wp2_with fail
    go_end0
    exact ⟨rfl, ⟨s, n, H.out⟩, Kept.refl g w⟩
  | some l =>
    have H : Hid (Blk w g 84 #[.string (tx l), .nilIface]) := h
    have p0 : w.cell? ⟨g, 0, none⟩ = some (.string (tx l)) := H.out.cell 0
    have p1 : w.cell? ⟨g, 1, none⟩ = some .nilIface := H.out.cell 1
    have f1 : w.frozen? ⟨g, 1, none⟩ = false := H.out.frozen 1
    clear h
    go_enter Tryd.func45, Tryd.ntmps45
    go_wp2_with fail
    go_end0
    exact ⟨rfl, ⟨_, _, H.out.set_ 1 _⟩, (Kept.refl g w).set 1 _⟩
set_option maxHeartbeats 1000000 in
theorem take_any (p : List UInt8) (g : Nat) (st : Option (List UInt8)) (w : World) (h : RdSt w g st) : Calls Tryd.prog 57 #[.pointer (some ⟨g, 0, none⟩), .string (tx p)] w fun e w' => e = .returned (.tuple #[]) ∧ RdSt w' g (st.bind (eat p)) ∧ Kept g w w' := by
  cases st with
  | none =>
    have HF := Lib.hid (fail_any g none w h)
    obtain ⟨s, n, h⟩ := h
    have p0 := h.cell 0
    have p1 : w.cell? ⟨g, 1, none⟩ = some (.iface 87 (.agg #[.int .i64 (n : Int)])) := h.cell 1
    have HC := Lib.hid (Tryd.strings_CutPrefix s (tx p) w)
    obtain ⟨q, hq⟩ : ∃ q, Hid (tx p = q) := ⟨_, rfl⟩
    rw [hq.out] at HC ⊢
    clear h hq
    cases hok : Lib.hasPrefix s.data.toList q.data.toList
    · go_enter Tryd.func57, Tryd.ntmps57
      go_wp2_with (first
        | (go_at_call 73; refine HC.out.mono ?_; rintro e w1 ⟨rfl, hw⟩; have hw := hw.symm; subst hw)
        | (go_at_call 45; refine HF.out.mono ?_; rintro e w2 ⟨rfl, hR, hK⟩; have HR := Lib.hid hR; have HK := Lib.hid hK; clear hR hK)
        | fail)
      refine bodyPost_ret (results_none rfl _ _ _) rfl ?_
      exact ⟨rfl, HR.out, HK.out⟩
    · go_enter Tryd.func57, Tryd.ntmps57
      go_wp2_with (first
        | (go_at_call 73; refine HC.out.mono ?_; rintro e w1 ⟨rfl, hw⟩; have hw := hw.symm; subst hw)
        | (go_at_call 45; refine HF.out.mono ?_; rintro e w2 ⟨rfl, hR, hK⟩; have HR := Lib.hid hR; have HK := Lib.hid hK; clear hR hK)
        | fail)
      refine bodyPost_ret (results_none rfl _ _ _) rfl ?_
      exact ⟨rfl, HR.out, HK.out⟩
  | some l =>
    have HF := Lib.hid (fail_any g (some l) w h)
    have H : Hid (Blk w g 84 #[.string (tx l), .nilIface]) := h
    have p0 : w.cell? ⟨g, 0, none⟩ = some (.string (tx l)) := H.out.cell 0
    have p1 : w.cell? ⟨g, 1, none⟩ = some .nilIface := H.out.cell 1
    have f0 : w.frozen? ⟨g, 0, none⟩ = false := H.out.frozen 0
    have HC := Lib.hid (Tryd.strings_CutPrefix (tx l) (tx p) w)
    obtain ⟨q, hq⟩ : ∃ q, Hid (tx p = q) := ⟨_, rfl⟩
    have hql : Hid (q.data.toList = p) := by rw [Hid, ← hq.out]; rfl
    have hE : Hid (eat p l = if Lib.hasPrefix (tx l).data.toList q.data.toList then some (Lib.trimPrefix (tx l).data.toList q.data.toList) else none) := by
      rw [Hid, hql.out]
      show eat p l = if p.isPrefixOf l then some (if p.isPrefixOf l then l.drop p.length else l) else none
      unfold eat
      split <;> simp_all
    rw [hq.out] at HC ⊢
    obtain ⟨t, ht⟩ : ∃ t, Hid (tx l = t) := ⟨_, rfl⟩
    rw [ht.out] at HC H p0 hE
    clear h hq
    cases hok : Lib.hasPrefix t.data.toList q.data.toList
    · have hN : Hid (eat p l = none) := by rw [Hid, hE.out, hok]; rfl
      go_enter Tryd.func57, Tryd.ntmps57
      go_wp2_with (first
        | (go_at_call 73; refine HC.out.mono ?_; rintro e w1 ⟨rfl, hw⟩; have hw := hw.symm; subst hw)
        | (go_at_call 45; refine HF.out.mono ?_; rintro e w2 ⟨rfl, hR, hK⟩; have HR := Lib.hid hR; have HK := Lib.hid hK; clear hR hK)
        | fail)
      refine bodyPost_ret (results_none rfl _ _ _) rfl ?_
      refine ⟨rfl, ?_, HK.out⟩
      show RdSt w2 g (eat p l)
      rw [hN.out]
      exact HR.out
    · have hN : Hid (eat p l = some (Lib.trimPrefix t.data.toList q.data.toList)) := by rw [Hid, hE.out, hok]; rfl
      go_enter Tryd.func57, Tryd.ntmps57
      go_wp2_with (first
        | (go_at_call 73; refine HC.out.mono ?_; rintro e w1 ⟨rfl, hw⟩; have hw := hw.symm; subst hw)
        | fail)
      go_end0
      refine ⟨rfl, ?_, (Kept.refl g w).set 0 _⟩
      show RdSt _ g (eat p l)
      rw [hN.out]
      exact H.out.set_ 0 _
end Go.Proofs.YtbldognffppeiaaDoor
