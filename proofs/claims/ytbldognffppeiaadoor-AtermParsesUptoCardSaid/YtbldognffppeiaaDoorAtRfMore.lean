/- The reference's reader: more, walked. -/
import Derived.Test.YtbldognffppeiaaDoorAtRfQuoted
namespace Go.Proofs.YtbldognffppeiaaDoor
open Go.RowKit Quo
set_option linter.unusedSimpArgs false
set_option linter.unusedVariables false
def moreS (n : Nat) (st : Option (List UInt8)) : Option (List UInt8) := if nextB 93 st then st.bind (eat [93]) else if n = 0 then st else st.bind (eat [44])
def moreB (n : Nat) (st : Option (List UInt8)) : Bool := !nextB 93 st && (moreS n st).isSome
def badOf : Option (List UInt8) → Bool | none => true | some _ => false
theorem RfSt.badCell {W : World} {g : Nat} {s : ByteArray} {st : Option (List UInt8)} (h : RfSt W g s st) : W.cell? ⟨g, 2, none⟩ = some (.bool (badOf st)) := by
  cases st with
  | none => obtain ⟨k, _, h⟩ := h; exact h.cell 2
  | some l => obtain ⟨k, _, _, h⟩ := h; exact h.cell 2
theorem badOf_not (st : Option (List UInt8)) : (!badOf st) = st.isSome := by cases st <;> rfl
set_option maxHeartbeats 4000000 in
set_option maxRecDepth 1000000 in
theorem rfMore_any (n : Nat) (hn : n ≤ 1048577) (g : Nat) (s : ByteArray) (st : Option (List UInt8)) (hs : s.size ≤ 1048576) (w : World) (h : RfSt w g s st) : Calls Tryd.prog 48 #[.pointer (some ⟨g, 0, none⟩), .int .i64 (n : Int)] w fun e w' => e = .returned (.bool (moreB n st)) ∧ RfSt w' g s (moreS n st) ∧ Kept g w w' := by
  have HN := Lib.hid (rfNext_any 93 g s st hs w h)
  have H := Lib.hid h
  clear h
  cases hnx : nextB 93 st with
  | true =>
    have HE : Hid (∀ m, Calls Tryd.prog 47 #[.pointer (some ⟨g, 0, none⟩), .string (tx [93])] (w.drewN m) fun e w' => e = .returned (.tuple #[]) ∧ RfSt w' g s (st.bind (eat [93])) ∧ Kept g (w.drewN m) w') := fun m => rfTake_any [93] g s st hs (by decide) (w.drewN m) (H.out.drewN m)
    have hB : Hid (moreB n st = false) := by rw [Hid]; unfold moreB; rw [hnx]; rfl
    have hS : Hid (moreS n st = st.bind (eat [93])) := if_pos hnx
    rw [hnx] at HN
    rw [hB.out, hS.out]
    clear hnx
    go_enter Tryd.func48, Tryd.ntmps48
    go_wp2_with (first
      | (go_at_call 70; refine HN.out.mono ?_; rintro e w2 ⟨rfl, m, rfl⟩)
      | (go_at_call 47; refine (HE.out _).mono ?_; rintro e w3 ⟨rfl, hr, hk⟩; have HR := Lib.hid hr; have HK := Lib.hid (((Kept.refl g w).drewN m).trans hk); clear hr hk)
      | fail)
    go_ret
    exact ⟨rfl, HR.out, HK.out⟩
  | false =>
    rw [hnx] at HN
    by_cases h0 : n = 0
    · have hS : Hid (moreS n st = st) := by rw [Hid]; unfold moreS; rw [hnx, if_pos h0]; rfl
      have hB : Hid (moreB n st = !badOf st) := by rw [Hid]; unfold moreB; rw [hnx, hS.out, badOf_not]; rfl
      rw [hB.out, hS.out]
      have d1 : ¬ (0 : Int) < (n : Int) := by omega
      have p2 := H.out.badCell
      obtain ⟨bb, hbb⟩ : ∃ bb, Hid (badOf st = bb) := ⟨_, rfl⟩
      rw [hbb.out] at p2 ⊢
      clear hnx
      go_enter Tryd.func48, Tryd.ntmps48
      go_wp2_with (first
        | (go_at_call 70; refine HN.out.mono ?_; rintro e w2 ⟨rfl, m, rfl⟩)
        | fail)
      go_ret
      exact ⟨rfl, H.out.drewN m, (Kept.refl g w).drewN m⟩
    · have hS : Hid (moreS n st = st.bind (eat [44])) := by rw [Hid]; unfold moreS; rw [hnx, if_neg h0]; rfl
      have hB : Hid (moreB n st = !badOf (st.bind (eat [44]))) := by rw [Hid]; unfold moreB; rw [hnx, hS.out, badOf_not]; rfl
      have HE : Hid (∀ m, Calls Tryd.prog 47 #[.pointer (some ⟨g, 0, none⟩), .string (tx [44])] (w.drewN m) fun e w' => e = .returned (.tuple #[]) ∧ RfSt w' g s (st.bind (eat [44])) ∧ Kept g (w.drewN m) w') := fun m => rfTake_any [44] g s st hs (by decide) (w.drewN m) (H.out.drewN m)
      rw [hB.out, hS.out]
      have d1 : (0 : Int) < (n : Int) := by omega
      obtain ⟨bb, hbb⟩ : ∃ bb, Hid (badOf (st.bind (eat [44])) = bb) := ⟨_, rfl⟩
      rw [hbb.out]
      clear hnx h0
      go_enter Tryd.func48, Tryd.ntmps48
      go_upto_region 6 with (first
        | (go_at_call 70; refine HN.out.mono ?_; rintro e w2 ⟨rfl, m, rfl⟩)
        | (go_at_call 47; refine (HE.out _).mono ?_; rintro e w3 ⟨rfl, hr, hk⟩; have HR := Lib.hid hr; have HK := Lib.hid (((Kept.refl g w).drewN m).trans hk); clear hr hk)
        | fail)
      have p2 := HR.out.badCell
      rw [hbb.out] at p2
      go_wp2_with fail
      go_ret
      exact ⟨rfl, HR.out, HK.out⟩
/-- The list's loop, seen from 'more'. -/
theorem more_ends {α : Type} {rd : List UInt8 → Option (α × List UInt8)} {R : Option (List α × List UInt8)} {acc : List α} {sr : Option (List UInt8)} {n : Nat} (h : EachSays rd R acc sr) (hn : n = acc.length) (hb : moreB n sr = false) : R = (moreS n sr).map fun l => (acc, l) := by
  cases sr with
  | none =>
    have e : R = none := h
    have e2 : moreS n none = none := by unfold moreS; simp [nextB]
    rw [e, e2]
    rfl
  | some l =>
    cases hp : nextB 93 (some l) with
    | true =>
      obtain ⟨t, rfl⟩ : ∃ t, l = 93 :: t := by
        cases l with
        | nil => cases hp
        | cons x t =>
          have : x = 93 := by simpa [nextB] using hp
          exact ⟨t, by rw [this]⟩
      have e2 : moreS n (some (93 :: t)) = some t := by unfold moreS; rw [if_pos hp]; exact (eat_iff [93] _ t).2 rfl
      rw [e2, h.ends]
      rfl
    | false =>
      have e2 : moreS n (some l) = sepR acc l := by
        unfold moreS
        rw [hp]
        by_cases h0 : n = 0
        · rw [if_neg (by decide), if_pos h0]
          obtain rfl : acc = [] := List.eq_nil_of_length_eq_zero (by omega)
          rfl
        · rw [if_neg (by decide), if_neg h0, sepR_cons (by omega)]
          rfl
      have hpp : [93].isPrefixOf l = false := by
        cases l with
        | nil => rfl
        | cons x t =>
          simp [nextB] at hp
          simp [List.isPrefixOf]
          exact fun e => hp e.symm
      unfold moreB at hb
      rw [hp, e2] at hb
      cases hs : sepR acc l with
      | none => rw [e2, hs, h.noSep hpp hs]; rfl
      | some l2 => rw [hs] at hb; cases hb
theorem more_goes {α : Type} {rd : List UInt8 → Option (α × List UInt8)} {R : Option (List α × List UInt8)} {acc : List α} {sr : Option (List UInt8)} {n : Nat} (h : EachSays rd R acc sr) (hn : n = acc.length) (hb : moreB n sr = true) : ∃ l l2, sr = some l ∧ [93].isPrefixOf l = false ∧ sepR acc l = some l2 ∧ moreS n sr = some l2 := by
  cases sr with
  | none =>
    have e2 : moreS n none = none := by unfold moreS; simp [nextB]
    unfold moreB at hb
    rw [e2] at hb
    simp at hb
  | some l =>
    cases hp : nextB 93 (some l) with
    | true => unfold moreB at hb; rw [hp] at hb; cases hb
    | false =>
      have e2 : moreS n (some l) = sepR acc l := by
        unfold moreS
        rw [hp]
        by_cases h0 : n = 0
        · rw [if_neg (by decide), if_pos h0]
          obtain rfl : acc = [] := List.eq_nil_of_length_eq_zero (by omega)
          rfl
        · rw [if_neg (by decide), if_neg h0, sepR_cons (by omega)]
          rfl
      have hpp : [93].isPrefixOf l = false := by
        cases l with
        | nil => rfl
        | cons x t =>
          simp [nextB] at hp
          simp [List.isPrefixOf]
          exact fun e => hp e.symm
      unfold moreB at hb
      rw [hp, e2] at hb
      cases hs : sepR acc l with
      | none => rw [hs] at hb; cases hb
      | some l2 => exact ⟨l, l2, rfl, hpp, hs, by rw [e2, hs]⟩
end Go.Proofs.YtbldognffppeiaaDoor
