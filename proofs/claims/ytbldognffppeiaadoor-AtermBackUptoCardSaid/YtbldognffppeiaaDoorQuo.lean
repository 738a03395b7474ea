/- Plain facts: a text between quotes. No program in sight. -/
import Derived.RowKit
namespace Go.Proofs.YtbldognffppeiaaDoor.Quo

def plainL : List UInt8 := [34, 92, 10, 13, 9]
def signsL : List UInt8 := [34, 92, 110, 114, 116]
/-- What a byte becomes. -/
def qc (c : UInt8) : List UInt8 := if plainL.idxOf c < 5 then [92, signsL.getD (plainL.idxOf c) 0] else [c]
def body (l : List UInt8) : List UInt8 := l.flatMap qc
def quo (l : List UInt8) : List UInt8 := 34 :: (body l ++ [34])

theorem body_nil : body [] = [] := rfl
theorem body_cons (c : UInt8) (l : List UInt8) : body (c :: l) = qc c ++ body l := rfl
theorem body_append (a b : List UInt8) : body (a ++ b) = body a ++ body b := by simp [body]
theorem qc_cases (c : UInt8) : (qc c = [c] ∧ c ≠ 34 ∧ c ≠ 92 ∧ c ≠ 10 ∧ c ≠ 13 ∧ c ≠ 9) ∨ ∃ s, qc c = [92, s] ∧ (s = 34 ∧ c = 34 ∨ s = 92 ∧ c = 92 ∨ s = 110 ∧ c = 10 ∨ s = 114 ∧ c = 13 ∨ s = 116 ∧ c = 9) := by
  by_cases h1 : c = 34
  · subst h1; exact .inr ⟨34, rfl, by simp⟩
  by_cases h2 : c = 92
  · subst h2; exact .inr ⟨92, rfl, by simp⟩
  by_cases h3 : c = 10
  · subst h3; exact .inr ⟨110, rfl, by simp⟩
  by_cases h4 : c = 13
  · subst h4; exact .inr ⟨114, rfl, by simp⟩
  by_cases h5 : c = 9
  · subst h5; exact .inr ⟨116, rfl, by simp⟩
  refine .inl ⟨?_, h1, h2, h3, h4, h5⟩
  unfold qc
  rw [if_neg]
  have : c ∉ plainL := by simp [plainL, h1, h2, h3, h4, h5]
  rw [List.idxOf_eq_length this]
  decide
theorem qc_length (c : UInt8) : 1 ≤ (qc c).length ∧ (qc c).length ≤ 2 := by
  rcases qc_cases c with ⟨h, _⟩ | ⟨s, h, _⟩ <;> rw [h] <;> simp
theorem body_length (l : List UInt8) : l.length ≤ (body l).length ∧ (body l).length ≤ 2 * l.length := by
  induction l with
  | nil => simp [body]
  | cons c l ih =>
    rw [body_cons, List.length_append, List.length_cons]
    have := qc_length c
    omega
theorem quo_length (l : List UInt8) : (quo l).length = (body l).length + 2 := by simp [quo]
theorem body_inj : ∀ a b : List UInt8, body a = body b → a = b := by
  intro a
  induction a with
  | nil =>
    intro b h
    cases b with
    | nil => rfl
    | cons y b =>
      have h1 := congrArg List.length h
      rw [body_cons, List.length_append, body_nil] at h1
      have := qc_length y
      simp only [List.length_nil] at h1
      omega
  | cons x a ih =>
    intro b h
    cases b with
    | nil =>
      have h1 := congrArg List.length h
      rw [body_cons, List.length_append, body_nil] at h1
      have := qc_length x
      simp only [List.length_nil] at h1
      omega
    | cons y b =>
      rw [body_cons, body_cons] at h
      have hxy : x = y ∧ body a = body b := by
        rcases qc_cases x with ⟨hx, x1, x2, x3, x4, x5⟩ | ⟨s, hx, hs⟩ <;> rcases qc_cases y with ⟨hy, y1, y2, y3, y4, y5⟩ | ⟨t, hy, ht⟩
        · rw [hx, hy] at h
          simp at h
          exact h
        · rw [hx, hy] at h
          simp at h
          exact absurd h.1 x2
        · rw [hx, hy] at h
          simp at h
          exact absurd h.1.symm y2
        · rw [hx, hy] at h
          simp at h
          obtain ⟨rfl, h⟩ := h
          refine ⟨?_, h⟩
          rcases hs with ⟨h1, h2⟩ | ⟨h1, h2⟩ | ⟨h1, h2⟩ | ⟨h1, h2⟩ | ⟨h1, h2⟩ <;> rcases ht with ⟨h3, h4⟩ | ⟨h3, h4⟩ | ⟨h3, h4⟩ | ⟨h3, h4⟩ | ⟨h3, h4⟩ <;> rw [h1] at h3 <;> first | (rw [h2, h4]; done) | (exact absurd h3 (by decide))
      rw [hxy.1, ih b hxy.2]
theorem quo_inj (a b : List UInt8) (h : quo a = quo b) : a = b := by
  unfold quo at h
  simp at h
  exact body_inj a b h
end Go.Proofs.YtbldognffppeiaaDoor.Quo
