/- Plain facts: bytes as bits, signs of five bits, and back. No program in sight. -/
import Derived.RowKit
namespace Go.Proofs.YtbldognffppeiaaDoor.Sig
set_option linter.unusedSimpArgs false

/-- The lowest n bits of a number, the highest first. -/
def toBits : Nat → Nat → List Bool
  | 0, _ => []
  | n + 1, a => (a / 2 ^ n % 2 == 1) :: toBits n a
/-- The number of bits, behind a number that stands ahead. -/
def ofBits (a : Nat) (l : List Bool) : Nat := l.foldl (fun a b => 2 * a + b.toNat) a

theorem toBits_length (n a : Nat) : (toBits n a).length = n := by
  induction n with
  | zero => rfl
  | succ n ih => simp [toBits, ih]
theorem toBits_congr (n a b : Nat) (h : a % 2 ^ n = b % 2 ^ n) : toBits n a = toBits n b := by
  induction n with
  | zero => rfl
  | succ n ih =>
    have h1 : a % 2 ^ n = b % 2 ^ n := by
      have ha := Nat.mod_mod_of_dvd a (Nat.pow_dvd_pow 2 (Nat.le_succ n))
      have hb := Nat.mod_mod_of_dvd b (Nat.pow_dvd_pow 2 (Nat.le_succ n))
      rw [← ha, ← hb, h]
    have h2 : a / 2 ^ n % 2 = b / 2 ^ n % 2 := by
      rw [Nat.pow_succ, Nat.mod_mul, Nat.mod_mul, h1] at h
      have hp : 0 < 2 ^ n := Nat.pow_pos (by decide)
      exact Nat.eq_of_mul_eq_mul_left hp (by omega)
    simp [toBits, h2, ih h1]
theorem toBits_mod (n a : Nat) : toBits n (a % 2 ^ n) = toBits n a := toBits_congr n _ _ (Nat.mod_mod _ _)
theorem toBits_split (m n a : Nat) : toBits (m + n) a = toBits m (a / 2 ^ n) ++ toBits n a := by
  induction m with
  | zero => simp [toBits]
  | succ m ih =>
    rw [show m + 1 + n = (m + n) + 1 by omega]
    simp only [toBits, List.cons_append]
    rw [ih, Nat.div_div_eq_div_mul, ← Nat.pow_add, Nat.add_comm n m]
theorem toBits_join (m n a b : Nat) (hb : b < 2 ^ n) : toBits (m + n) (a * 2 ^ n + b) = toBits m a ++ toBits n b := by
  have hp : 0 < 2 ^ n := Nat.pow_pos (by decide)
  rw [toBits_split, Nat.mul_comm, Nat.mul_add_div hp, Nat.div_eq_of_lt hb, Nat.add_zero]
  congr 1
  exact toBits_congr n _ _ (by rw [Nat.mul_add_mod])
theorem ofBits_append (a : Nat) (l r : List Bool) : ofBits a (l ++ r) = ofBits (ofBits a l) r := by simp [ofBits]
theorem ofBits_eq (l : List Bool) : ∀ a, ofBits a l = a * 2 ^ l.length + ofBits 0 l := by
  induction l with
  | nil => intro a; simp [ofBits]
  | cons b l ih =>
    intro a
    show ofBits (2 * a + b.toNat) l = _ + ofBits (2 * 0 + b.toNat) l
    rw [ih (2 * a + b.toNat), ih (2 * 0 + b.toNat), List.length_cons, Nat.pow_succ]
    rw [Nat.add_mul, Nat.add_mul, Nat.mul_zero, Nat.zero_mul, Nat.zero_add, Nat.mul_comm 2 a, Nat.mul_assoc, Nat.mul_comm 2 (2 ^ l.length)]
    omega
theorem ofBits_lt (l : List Bool) : ofBits 0 l < 2 ^ l.length := by
  induction l with
  | nil => simp [ofBits]
  | cons b l ih =>
    show ofBits (2 * 0 + b.toNat) l < _
    rw [ofBits_eq, List.length_cons, Nat.pow_succ]
    have : b.toNat ≤ 1 := by cases b <;> decide
    have h2 : (2 * 0 + b.toNat) * 2 ^ l.length ≤ 1 * 2 ^ l.length := Nat.mul_le_mul_right _ (by omega)
    omega
theorem ofBits_toBits (n a : Nat) : ofBits 0 (toBits n a) = a % 2 ^ n := by
  induction n with
  | zero => simp [toBits, ofBits, Nat.mod_one]
  | succ n ih =>
    show ofBits (2 * 0 + (a / 2 ^ n % 2 == 1).toNat) (toBits n a) = _
    rw [ofBits_eq, ih, toBits_length, Nat.pow_succ, Nat.mod_mul]
    have : (a / 2 ^ n % 2 == 1).toNat = a / 2 ^ n % 2 := by
      rcases Nat.mod_two_eq_zero_or_one (a / 2 ^ n) with h | h <;> simp [h]
    rw [this, Nat.mul_zero, Nat.zero_add, Nat.mul_comm, Nat.add_comm]
theorem toBits_ofBits (l : List Bool) : toBits l.length (ofBits 0 l) = l := by
  induction l with
  | nil => rfl
  | cons b l ih =>
    have e : ofBits 0 (b :: l) = b.toNat * 2 ^ l.length + ofBits 0 l := by
      show ofBits (2 * 0 + b.toNat) l = _
      rw [ofBits_eq]; simp
    rw [e, List.length_cons, Nat.add_comm l.length 1, toBits_join 1 l.length _ _ (ofBits_lt l), ih]
    cases b <;> simp [toBits]

/-- The bits of bytes. -/
def bitsOf (l : List UInt8) : List Bool := l.flatMap fun b => toBits 8 b.toNat
theorem bitsOf_nil : bitsOf [] = [] := rfl
theorem bitsOf_cons (b : UInt8) (l : List UInt8) : bitsOf (b :: l) = toBits 8 b.toNat ++ bitsOf l := rfl
theorem bitsOf_append (l r : List UInt8) : bitsOf (l ++ r) = bitsOf l ++ bitsOf r := by simp [bitsOf]
theorem bitsOf_length (l : List UInt8) : (bitsOf l).length = 8 * l.length := by
  induction l with
  | nil => rfl
  | cons b l ih => rw [bitsOf_cons, List.length_append, toBits_length, ih, List.length_cons]; omega

/-- The thirty-two signs. -/
def signs : List UInt8 := [48, 49, 50, 51, 52, 53, 54, 55, 56, 57, 97, 98, 99, 100, 102, 103, 104, 105, 106, 107, 108, 109, 110, 112, 113, 114, 115, 118, 119, 120, 121, 122]
def sgn (n : Nat) : UInt8 := signs.getD n 0
/-- Bits as signs of five; the last ones are filled with no bits. -/
def encB : List Bool → List UInt8
  | a :: b :: c :: d :: e :: r => sgn (ofBits 0 [a, b, c, d, e]) :: encB r
  | [a, b, c, d] => [sgn (ofBits 0 [a, b, c, d, false])]
  | [a, b, c] => [sgn (ofBits 0 [a, b, c, false, false])]
  | [a, b] => [sgn (ofBits 0 [a, b, false, false, false])]
  | [a] => [sgn (ofBits 0 [a, false, false, false, false])]
  | [] => []
def enc (l : List UInt8) : List UInt8 := encB (bitsOf l)

theorem encB_five (l r : List Bool) (h : l.length = 5) : encB (l ++ r) = sgn (ofBits 0 l) :: encB r := by
  match l, h with
  | [a, b, c, d, e], _ => rfl
theorem encB_last (l : List Bool) (h0 : 0 < l.length) (h : l.length < 5) : encB l = [sgn (ofBits 0 l * 2 ^ (5 - l.length))] := by
  match l, h0, h with
  | [a], _, _ => cases a <;> rfl
  | [a, b], _, _ => cases a <;> cases b <;> rfl
  | [a, b, c], _, _ => cases a <;> cases b <;> cases c <;> rfl
  | [a, b, c, d], _, _ => cases a <;> cases b <;> cases c <;> cases d <;> rfl
theorem encB_step (l : List Bool) (h : l ≠ []) : encB l = sgn (ofBits 0 [l.getD 0 false, l.getD 1 false, l.getD 2 false, l.getD 3 false, l.getD 4 false]) :: encB (l.drop 5) := by
  match l, h with
  | [a], _ => rfl
  | [a, b], _ => rfl
  | [a, b, c], _ => rfl
  | [a, b, c, d], _ => rfl
  | a :: b :: c :: d :: e :: r, _ => rfl
theorem encB_length (n : Nat) : ∀ l : List Bool, l.length ≤ n → (encB l).length = (l.length + 4) / 5 := by
  induction n using Nat.strongRecOn with
  | ind n ih =>
    intro l hl
    match l, hl with
    | [], _ => rfl
    | [a], _ => simp [encB]
    | [a, b], _ => simp [encB]
    | [a, b, c], _ => simp [encB]
    | [a, b, c, d], _ => simp [encB]
    | a :: b :: c :: d :: e :: r, hl =>
      simp only [List.length_cons] at hl
      have := ih (n - 5) (by omega) r (by omega)
      simp only [encB, List.length_cons, this]
      omega
theorem enc_length (l : List UInt8) : (enc l).length = (8 * l.length + 4) / 5 := by
  unfold enc
  rw [encB_length _ _ (Nat.le_refl _), bitsOf_length]
end Go.Proofs.YtbldognffppeiaaDoor.Sig
