/- The order of equally long rows of bytes is the order of their signs. -/
import Derived.Test.YtmaknbcfnigbmaaDoorSig3
namespace Go.Proofs.YtmaknbcfnigbmaaDoor.Sig
open Go

theorem mix (M x y r s : Nat) (hr : r < M) (hs : s < M) : (x * M + r < y * M + s) ↔ (x < y ∨ (x = y ∧ r < s)) := by
  rcases Nat.lt_trichotomy x y with h | h | h
  · have : (x + 1) * M ≤ y * M := Nat.mul_le_mul_right M h
    rw [Nat.succ_mul] at this
    constructor
    · intro _; exact Or.inl h
    · intro _; omega
  · subst h
    constructor
    · intro hh; exact Or.inr ⟨rfl, by omega⟩
    · intro hh; rcases hh with hh | hh <;> omega
  · have : (y + 1) * M ≤ x * M := Nat.mul_le_mul_right M h
    rw [Nat.succ_mul] at this
    constructor
    · intro hh; omega
    · intro hh; omega
theorem mix_dec (M x y r s : Nat) (hr : r < M) (hs : s < M) : decide (x * M + r < y * M + s) = (decide (x < y) || ((x == y) && decide (r < s))) := by
  rw [Bool.eq_iff_iff]
  simp [mix M x y r s hr hs]
theorem less_bytes : ∀ a b : List UInt8, a.length = b.length → Op.bytesLess a b = decide (ofBits 0 (bitsOf a) < ofBits 0 (bitsOf b))
  | [], [], _ => rfl
  | [], _ :: _, h => by simp at h
  | _ :: _, [], h => by simp at h
  | x :: a, y :: b, h => by
    have hl : a.length = b.length := by simpa using h
    have ih := less_bytes a b hl
    have hx : ofBits 0 (toBits 8 x.toNat) = x.toNat := by rw [ofBits_toBits, Nat.mod_eq_of_lt (UInt8.toNat_lt x)]
    have hy : ofBits 0 (toBits 8 y.toNat) = y.toNat := by rw [ofBits_toBits, Nat.mod_eq_of_lt (UInt8.toNat_lt y)]
    have hA := ofBits_lt (bitsOf a)
    have hB := ofBits_lt (bitsOf b)
    have hbl : (bitsOf a).length = (bitsOf b).length := by rw [bitsOf_length, bitsOf_length, hl]
    rw [← hbl] at hB
    have e1 : (decide (x < y)) = decide (x.toNat < y.toNat) := by rw [decide_eq_decide]; exact UInt8.lt_iff_toNat_lt
    have e2 : (x == y) = (x.toNat == y.toNat) := by
      rw [Bool.eq_iff_iff, beq_iff_eq, beq_iff_eq]
      exact ⟨fun h => by rw [h], fun h => UInt8.toNat_inj.1 h⟩
    rw [bitsOf_cons, bitsOf_cons, ofBits_append, ofBits_append, hx, hy, ofBits_eq (bitsOf a), ofBits_eq (bitsOf b), ← hbl, mix_dec _ _ _ _ _ hA hB, ← ih, ← e1, ← e2]
    rfl
theorem sgn_less : ∀ v v' : Fin 32, decide (sgn v.val < sgn v'.val) = decide (v.val < v'.val) ∧ (sgn v.val == sgn v'.val) = (v.val == v'.val) := by decide +kernel
theorem five_lt (l : List Bool) (h : l.length ≤ 5) : ofBits 0 l * 2 ^ (5 - l.length) < 32 := by
  have h1 := ofBits_lt l
  have h2 : ofBits 0 l * 2 ^ (5 - l.length) < 2 ^ l.length * 2 ^ (5 - l.length) := Nat.mul_lt_mul_of_pos_right h1 (Nat.pow_pos (by decide))
  rw [← Nat.pow_add, Nat.add_sub_of_le h] at h2
  exact h2
theorem less_encB (n : Nat) : ∀ x y : List Bool, x.length ≤ n → x.length = y.length → Op.bytesLess (encB x) (encB y) = decide (ofBits 0 x < ofBits 0 y) := by
  induction n using Nat.strongRecOn with
  | ind n ih =>
    intro x y hn hl
    by_cases h0 : x.length = 0
    · obtain rfl : x = [] := List.eq_nil_of_length_eq_zero h0
      obtain rfl : y = [] := List.eq_nil_of_length_eq_zero (by omega)
      rfl
    · by_cases h5 : x.length < 5
      · rw [encB_last x (by omega) h5, encB_last y (by omega) (by omega), ← hl]
        have hs := sgn_less ⟨ofBits 0 x * 2 ^ (5 - x.length), five_lt x (by omega)⟩ ⟨ofBits 0 y * 2 ^ (5 - x.length), by have := five_lt y (by omega); rw [← hl] at this; exact this⟩
        simp only [Op.bytesLess, Bool.and_false, Bool.or_false]
        simp only at hs
        rw [hs.1]
        rw [decide_eq_decide]
        exact Nat.mul_lt_mul_right (Nat.pow_pos (by decide))
      · have ex : x = x.take 5 ++ x.drop 5 := (List.take_append_drop 5 x).symm
        have ey : y = y.take 5 ++ y.drop 5 := (List.take_append_drop 5 y).symm
        have lx : (x.take 5).length = 5 := by rw [List.length_take]; omega
        have ly : (y.take 5).length = 5 := by rw [List.length_take]; omega
        have hd : (x.drop 5).length = (y.drop 5).length := by rw [List.length_drop, List.length_drop, hl]
        have i := ih (n - 5) (by omega) (x.drop 5) (y.drop 5) (by rw [List.length_drop]; omega) hd
        generalize x.take 5 = p at *
        generalize x.drop 5 = q at *
        generalize y.take 5 = p' at *
        generalize y.drop 5 = q' at *
        subst ex ey
        have h1 := ofBits5_lt p lx
        have h2 := ofBits5_lt p' ly
        have hA := ofBits_lt q
        have hB := ofBits_lt q'
        rw [← hd] at hB
        have hs := sgn_less ⟨ofBits 0 p, h1⟩ ⟨ofBits 0 p', h2⟩
        simp only at hs
        rw [encB_five p q lx, encB_five p' q' ly, ofBits_append, ofBits_append, ofBits_eq q, ofBits_eq q', ← hd, mix_dec _ _ _ _ _ hA hB, ← i]
        show (decide (sgn (ofBits 0 p) < sgn (ofBits 0 p')) || ((sgn (ofBits 0 p) == sgn (ofBits 0 p')) && Op.bytesLess (encB q) (encB q'))) = _
        rw [hs.1, hs.2]
theorem less_enc (a b : List UInt8) (h : a.length = b.length) : Op.bytesLess (enc a) (enc b) = Op.bytesLess a b := by
  rw [less_bytes a b h]
  exact less_encB _ _ _ (Nat.le_refl _) (by rw [bitsOf_length, bitsOf_length, h])
theorem enc_beq (a b : List UInt8) : (enc a == enc b) = (a == b) := by
  rw [Bool.eq_iff_iff, beq_iff_eq, beq_iff_eq]
  exact ⟨enc_inj a b, fun h => by rw [h]⟩
end Go.Proofs.YtmaknbcfnigbmaaDoor.Sig
