/- Plain facts: signs read back: when some bytes' signs are a text. No program in sight. -/
import Derived.Test.YtmaknbcfnigbmaaDoorSig2
namespace Go.Proofs.YtmaknbcfnigbmaaDoor.Sig
set_option linter.unusedSimpArgs false

theorem sv_le (c : UInt8) : sv c ≤ 32 := by
  unfold sv
  exact List.idxOf_le_length
theorem ofBits5_lt (l : List Bool) (h : l.length = 5) : ofBits 0 l < 32 := by
  have := ofBits_lt l
  rw [h] at this
  exact this
/-- Signs that are told are signs. -/
theorem encB_valid (n : Nat) : ∀ l : List Bool, l.length ≤ n → ∀ c ∈ encB l, sv c < 32 := by
  induction n using Nat.strongRecOn with
  | ind n ih =>
    intro l hl c hc
    match l, hl with
    | [], _ => cases hc
    | [a], _ => simp [encB] at hc; subst hc; rw [sv_sgn _ (ofBits5_lt _ rfl)]; exact ofBits5_lt _ rfl
    | [a, b], _ => simp [encB] at hc; subst hc; rw [sv_sgn _ (ofBits5_lt _ rfl)]; exact ofBits5_lt _ rfl
    | [a, b, d], _ => simp [encB] at hc; subst hc; rw [sv_sgn _ (ofBits5_lt _ rfl)]; exact ofBits5_lt _ rfl
    | [a, b, d, e], _ => simp [encB] at hc; subst hc; rw [sv_sgn _ (ofBits5_lt _ rfl)]; exact ofBits5_lt _ rfl
    | a :: b :: d :: e :: f :: r, hl =>
      simp only [List.length_cons] at hl
      have h2 : encB (a :: b :: d :: e :: f :: r) = sgn (ofBits 0 [a, b, d, e, f]) :: encB r := rfl
      rw [h2, List.mem_cons] at hc
      rcases hc with rfl | hc
      · rw [sv_sgn _ (ofBits5_lt _ rfl)]; exact ofBits5_lt _ rfl
      · exact ih (n - 5) (by omega) r (by omega) c hc
theorem enc_valid (l : List UInt8) : ∀ c ∈ enc l, sv c < 32 := encB_valid _ _ (Nat.le_refl _)
theorem five_inj (a b : Nat) (ha : a < 32) (hb : b < 32) (h : toBits 5 a = toBits 5 b) : a = b := by
  have h1 := ofBits_toBits 5 a
  have h2 := ofBits_toBits 5 b
  rw [h, h2] at h1
  omega
theorem decBits_inj : ∀ s t : List UInt8, (∀ c ∈ s, sv c < 32) → (∀ c ∈ t, sv c < 32) → decBits s = decBits t → s = t := by
  intro s
  induction s with
  | nil =>
    intro t _ _ h
    have hl := congrArg List.length h
    rw [decBits_length, decBits_length] at hl
    cases t with
    | nil => rfl
    | cons x y => simp at hl
  | cons x s ih =>
    intro t hs ht h
    cases t with
    | nil =>
      have hl := congrArg List.length h
      rw [decBits_length, decBits_length] at hl
      simp at hl
    | cons y t =>
      rw [decBits_cons, decBits_cons] at h
      obtain ⟨h1, h2⟩ := List.append_inj h (by rw [toBits_length, toBits_length])
      have hx := hs x (List.mem_cons_self ..)
      have hy := ht y (List.mem_cons_self ..)
      have h3 := five_inj _ _ hx hy h1
      have h4 : x = y := by rw [← sgn_sv x hx, h3, sgn_sv y hy]
      rw [h4, ih t (fun c hc => hs c (List.mem_cons_of_mem _ hc)) (fun c hc => ht c (List.mem_cons_of_mem _ hc)) h2]
/-- How many signs end with how many bytes. -/
def tailOf (r : Nat) : Nat := [0, 2, 4, 5, 7].getD r 0
def lenOk (len : Nat) : Prop := len * 5 / 8 / 5 * 8 + tailOf (len * 5 / 8 % 5) = len
theorem tailOf_eq (r : Nat) (h : r < 5) : tailOf r = (8 * r + 4) / 5 := by
  have : r = 0 ∨ r = 1 ∨ r = 2 ∨ r = 3 ∨ r = 4 := by omega
  rcases this with rfl | rfl | rfl | rfl | rfl <;> rfl
theorem lenOk_iff (len : Nat) : lenOk len ↔ (8 * (len * 5 / 8) + 4) / 5 = len := by
  unfold lenOk
  have h := tailOf_eq (len * 5 / 8 % 5) (Nat.mod_lt _ (by decide))
  rw [h]
  generalize len * 5 / 8 = n
  omega
theorem lenOk_enc (l : List UInt8) : lenOk (enc l).length := by
  rw [lenOk_iff, enc_length]
  have h : (8 * l.length + 4) / 5 * 5 / 8 = l.length := by omega
  rw [h]
/-- The bits of a text of signs: some bytes', and fewer than eight that are none. -/
theorem enc_of_bits (s acc : List UInt8) (m : Nat) (hm : m < 8) (hl : lenOk s.length) (hv : ∀ c ∈ s, sv c < 32) (hb : decBits s = bitsOf acc ++ List.replicate m false) : enc acc = s := by
  have h1 := congrArg List.length hb
  rw [decBits_length, List.length_append, bitsOf_length, List.length_replicate] at h1
  rw [lenOk_iff] at hl
  have h2 : s.length * 5 / 8 = acc.length := by omega
  rw [h2] at hl
  apply decBits_inj _ _ (enc_valid acc) hv
  rw [decBits_enc, hb]
  congr 2
  omega
theorem bits_of_enc (s acc : List UInt8) (m : Nat) (t : List Bool) (ht : t.length = m) (hm : m < 8) (hb : decBits s = bitsOf acc ++ t) (b : List UInt8) (h : enc b = s) : b = acc ∧ t = List.replicate m false := by
  have h1 := congrArg List.length hb
  rw [decBits_length, List.length_append, bitsOf_length, ht] at h1
  have h2 := congrArg List.length h
  rw [enc_length] at h2
  have h3 := decBits_enc b
  rw [h, hb] at h3
  have h4 : b.length = acc.length := by omega
  obtain ⟨h5, h6⟩ := List.append_inj h3 (by rw [bitsOf_length, bitsOf_length, h4])
  refine ⟨(bitsOf_inj _ _ h5).symm, h6.trans ?_⟩
  congr 1
  omega
theorem toBits_zero (m h : Nat) : toBits m h = List.replicate m false ↔ h % 2 ^ m = 0 := by
  constructor
  · intro e
    rw [← ofBits_toBits, e]
    have : ∀ m, ofBits 0 (List.replicate m false) = 0 := by
      intro m
      induction m with
      | zero => rfl
      | succ m ih =>
        rw [List.replicate_succ]
        show ofBits (2 * 0 + 0) _ = 0
        exact ih
    exact this m
  · intro e
    have h0 : toBits m h = toBits m 0 := toBits_congr m h 0 (by rw [e]; simp)
    rw [h0]
    clear h0 e
    induction m with
    | zero => rfl
    | succ m ih => simp [toBits, List.replicate_succ, ih]
end Go.Proofs.YtmaknbcfnigbmaaDoor.Sig
