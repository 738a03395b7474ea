/- Does a list of texts rise? The two walks of it. -/
import Derived.Test.YtbldognffppeiaaDoorWalkQuote
import Derived.WalkLawsBesides
import Derived.IntWalk
import Derived.Deep.RegionHeld3
import Derived.Deep.CutBlock
import Derived.Deep.DeepCutAuto
namespace Go.Proofs.YtbldognffppeiaaDoor
open Go.RowKit
set_option linter.unusedSimpArgs false
set_option linter.unusedVariables false
/-- Is the one text not above the other? -/
def leqS (a b : ByteArray) : Bool := Op.bytesLess a.toList b.toList || a.toList == b.toList
def risesK (l : List ByteArray) : Nat → Bool
  | 0 => true
  | k + 1 => risesK l k && (k == 0 || !leqS (l.getD k ⟨#[]⟩) (l.getD (k - 1) ⟨#[]⟩))
def rises (l : List ByteArray) : Bool := risesK l l.length
theorem risesK_one (l : List ByteArray) : risesK l 1 = true := rfl
theorem risesK_false (l : List ByteArray) (k : Nat) (h : risesK l k = false) : ∀ n, k ≤ n → risesK l n = false := by
  intro n hn
  induction n with
  | zero => obtain rfl : k = 0 := by omega
            exact h
  | succ n ih =>
    by_cases hk : k ≤ n
    · show (risesK l n && _) = false
      rw [ih hk]; rfl
    · obtain rfl : k = n + 1 := by omega
      exact h
theorem risesK_step (l : List ByteArray) (k : Nat) (a b : ByteArray) (hk : 0 < k) (ha : l[k]? = some a) (hb : l[k - 1]? = some b) (h : risesK l k = true) : risesK l (k + 1) = !leqS a b := by
  show (risesK l k && (k == 0 || !leqS (l.getD k ⟨#[]⟩) (l.getD (k - 1) ⟨#[]⟩))) = _
  rw [h, List.getD_eq_getElem?_getD, List.getD_eq_getElem?_getD, ha, hb]
  have : (k == 0) = false := by simp; omega
  rw [this]
  rfl
/-- A list of texts in memory. -/
def StrsAt (w : World) (A : Option Addr) (l : List ByteArray) : Prop := ∀ (j : Nat) (s : ByteArray), l[j]? = some s → ∃ g o, A = some ⟨g, o, none⟩ ∧ w.cell? ⟨g, o + j, none⟩ = some (.string s)
theorem StrsAt.below {w w1 : World} {A : Option Addr} {l : List ByteArray} (h : StrsAt w A l) (hb : Below w.heap.size w w1) : StrsAt w1 A l := fun j s hj => by
  obtain ⟨g, o, h1, h2⟩ := h j s hj
  exact ⟨g, o, h1, (hb.cell (World.block_lt_of_cell? w _ h2)).trans h2⟩
theorem StrsAt.drewN {w : World} {A : Option Addr} {l : List ByteArray} (h : StrsAt w A l) (n : Nat) : StrsAt (w.drewN n) A l := h
theorem StrsAt.two {w : World} {A : Option Addr} {l : List ByteArray} (h : StrsAt w A l) {k : Nat} (h0 : 0 < k) (hk : k < l.length) : ∃ g o a b, A = some ⟨g, o, none⟩ ∧ Hid (l[k]? = some a) ∧ Hid (l[k - 1]? = some b) ∧ w.cell? ⟨g, o + k, none⟩ = some (.string a) ∧ w.cell? ⟨g, o + (k - 1), none⟩ = some (.string b) := by
  obtain ⟨a, ha⟩ : ∃ a, l[k]? = some a := ⟨_, List.getElem?_eq_getElem hk⟩
  obtain ⟨b, hb⟩ : ∃ b, l[k - 1]? = some b := ⟨_, List.getElem?_eq_getElem (by omega)⟩
  obtain ⟨g, o, rfl, q1⟩ := h k a ha
  obtain ⟨g', o', e, q2⟩ := h (k - 1) b hb
  injection e with e
  injection e with e1 e2
  subst e1 e2
  exact ⟨g, o, a, b, rfl, ha, hb, q1, q2⟩
theorem ret_bool {a b : Bool} (h : a = b) : Ending.returned (.bool a) = .returned (.bool b) := by rw [h]
set_option maxHeartbeats 2000000 in
/-- The reference's rises. -/
theorem refRises_any (A : Option Addr) (l : List ByteArray) (c : Nat) (hl : l.length ≤ maxLen) (w : World) (h : StrsAt w A l) :
    Calls Tryd.prog 42 #[.slice A l.length c] w fun e w' => e = .returned (.bool (rises l)) ∧ ∃ n, w' = w.drewN n := by
  have H := Lib.hid h
  obtain ⟨n, hn⟩ : ∃ n, Hid (n = l.length) := ⟨_, rfl⟩
  rw [← hn.out] at hl ⊢
  unfold maxLen at hl
  clear h
  go_enter Tryd.func42, Tryd.ntmps42
  go_wp2_with fail
  go_loopw [3] (fun t3 wr => ∃ k m : Nat, t3 = .int .i64 k ∧ 1 ≤ k ∧ (k ≤ n ∨ k = 1) ∧ wr = w.drewN m ∧ Hid (risesK l k = true)) (fun t3 _ => n - (intOf t3).toNat)
  case atStart => exact ⟨1, 0, rfl, by omega, .inr rfl, rfl, rfl⟩
  case round =>
    obtain ⟨k, m, rfl, hk1, hk2, rfl, hr⟩ := hrel
    by_cases hlt : k < n
    · obtain ⟨g, o, a, b, rfl, ha, hb, q1, q2⟩ := H.out.two hk1 (by rw [← hn.out]; exact hlt)
      have hstep := Lib.hid (risesK_step l k a b hk1 ha.out hb.out hr.out)
      have d1 : (k : Int) < (n : Int) := by omega
      have d2 : (0 : Int) ≤ (k : Int) := by omega
      have d3 : (1 : Int) ≤ (k : Int) := by omega
      have d4 : (0 : Int) ≤ (k : Int) - 1 := by omega
      have d5 : (k : Int) - 1 < (n : Int) := by omega
      cases hle : leqS a b
      · have hle' : (Op.bytesLess a.toList b.toList || a.toList == b.toList) = false := hle
        rw [hle] at hstep
        go_upto_region 4 with (fail)
        go_quiet (fail)
        go_wp2_with fail
        refine ⟨⟨k + 1, m + nq, by first | rfl | simp, by omega, .inl (by omega), by first | rfl | exact World.drewN_drewN _ _ _, hstep⟩, by simp [intOf]; omega⟩
      · have hle' : (Op.bytesLess a.toList b.toList || a.toList == b.toList) = true := hle
        rw [hle] at hstep
        have hf : Hid (rises l = false) := risesK_false l (k + 1) hstep.out l.length (by rw [← hn.out]; omega)
        go_upto_region 4 with (fail)
        go_quiet (fail)
        go_wp2_with fail
        go_ret
        exact ⟨ret_bool hf.out.symm, m + nq, by first | rfl | exact World.drewN_drewN _ _ _⟩
    · have hf : Hid (rises l = true) := by
        have h := hr.out
        rcases hk2 with hk2 | hk2
        · obtain rfl : k = n := by omega
          rw [hn.out] at h
          exact h
        · subst hk2
          show rises l = true
          unfold rises
          have : l.length = 0 ∨ l.length = 1 := by have := hn.out; omega
          rcases this with e | e <;> rw [e] <;> rfl
      have d1 : ¬ (k : Int) < (n : Int) := by omega
      go_wp2_with fail
      go_ret
      exact ⟨ret_bool hf.out.symm, m, rfl⟩
theorem itself_any (s : ByteArray) (w : World) : Calls Tryd.prog 34 #[.string s] w fun e w' => e = .returned (.string s) ∧ w' = w := by
  go_enter Tryd.func34, Tryd.ntmps34
  go_wp2_with fail
  go_ret
  exact ⟨rfl, rfl⟩
set_option maxHeartbeats 2000000 in
/-- rises over texts by themselves. -/
theorem rises_strs (A : Option Addr) (l : List ByteArray) (c : Nat) (hl : l.length ≤ maxLen) (w : World) (h : StrsAt w A l) :
    Calls Tryd.prog 33 #[.slice A l.length c, .func (.func 34) #[] #[]] w fun e w' => e = .returned (.bool (rises l)) ∧ ∃ n, w' = w.drewN n := by
  have H := Lib.hid h
  obtain ⟨n, hn⟩ : ∃ n, Hid (n = l.length) := ⟨_, rfl⟩
  rw [← hn.out] at hl ⊢
  unfold maxLen at hl
  clear h
  go_enter Tryd.func33, Tryd.ntmps33
  go_wp2_with fail
  go_loopw [5] (fun t3 wr => ∃ k m : Nat, t3 = .int .i64 k ∧ 1 ≤ k ∧ (k ≤ n ∨ k = 1) ∧ wr = w.drewN m ∧ Hid (risesK l k = true)) (fun t3 _ => n - (intOf t3).toNat)
  case atStart => exact ⟨1, 0, rfl, by omega, .inr rfl, rfl, rfl⟩
  case round =>
    obtain ⟨k, m, rfl, hk1, hk2, rfl, hr⟩ := hrel
    by_cases hlt : k < n
    · obtain ⟨g, o, a, b, rfl, ha, hb, q1, q2⟩ := H.out.two hk1 (by rw [← hn.out]; exact hlt)
      have hstep := Lib.hid (risesK_step l k a b hk1 ha.out hb.out hr.out)
      have d1 : (k : Int) < (n : Int) := by omega
      have d2 : (0 : Int) ≤ (k : Int) := by omega
      have d3 : (1 : Int) ≤ (k : Int) := by omega
      have d4 : (0 : Int) ≤ (k : Int) - 1 := by omega
      have d5 : (k : Int) - 1 < (n : Int) := by omega
      cases hle : leqS a b
      · have hle' : (Op.bytesLess a.toList b.toList || a.toList == b.toList) = false := hle
        rw [hle] at hstep
        go_upto_region 4 with (fail)
        have hw1 : IntKind.i64.wrap ((k : Int) - 1) = (k : Int) - 1 := IntWalk.i64_in _ (by omega)
        have hw2 : ((k : Int) - 1).toNat = k - 1 := by omega
        go_region_held3 (fun W => W.cell? ⟨g, o + k, none⟩ = some (.string a) ∧ W.cell? ⟨g, o + (k - 1), none⟩ = some (.string b)) (go_keep) ((go_at_call 34; refine (itself_any _ _).mono ?_; rintro e w' ⟨rfl, rfl⟩))
        clear hw1 hw2
        go_wp2_with fail
        refine ⟨⟨k + 1, m + 1, by first | rfl | simp, by omega, .inl (by omega), by first | rfl | exact World.drewN_drewN _ _ _, hstep⟩, by simp [intOf]; omega⟩
      · have hle' : (Op.bytesLess a.toList b.toList || a.toList == b.toList) = true := hle
        rw [hle] at hstep
        have hf : Hid (rises l = false) := risesK_false l (k + 1) hstep.out l.length (by rw [← hn.out]; omega)
        go_upto_region 4 with (fail)
        have hw1 : IntKind.i64.wrap ((k : Int) - 1) = (k : Int) - 1 := IntWalk.i64_in _ (by omega)
        have hw2 : ((k : Int) - 1).toNat = k - 1 := by omega
        go_region_held3 (fun W => W.cell? ⟨g, o + k, none⟩ = some (.string a) ∧ W.cell? ⟨g, o + (k - 1), none⟩ = some (.string b)) (go_keep) ((go_at_call 34; refine (itself_any _ _).mono ?_; rintro e w' ⟨rfl, rfl⟩))
        clear hw1 hw2
        go_wp2_with fail
        go_ret
        exact ⟨ret_bool hf.out.symm, m + 1, by first | rfl | exact World.drewN_drewN _ _ _⟩
    · have hf : Hid (rises l = true) := by
        have h := hr.out
        rcases hk2 with hk2 | hk2
        · obtain rfl : k = n := by omega
          rw [hn.out] at h
          exact h
        · subst hk2
          show rises l = true
          unfold rises
          have : l.length = 0 ∨ l.length = 1 := by have := hn.out; omega
          rcases this with e | e <;> rw [e] <;> rfl
      have d1 : ¬ (k : Int) < (n : Int) := by omega
      go_wp2_with fail
      go_ret
      exact ⟨ret_bool hf.out.symm, m, rfl⟩
end Go.Proofs.YtbldognffppeiaaDoor
