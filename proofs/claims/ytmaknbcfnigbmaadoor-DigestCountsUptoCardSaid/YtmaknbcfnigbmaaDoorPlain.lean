/- Plain facts: bytes as bits, signs of five bits, and back. No program in sight. Plain facts: signs are read back as bits; what is told by signs is told apart. No program in sight. Plain facts: signs read back: when some bytes' signs are a text. No program in sight. Plain facts: SHA-256, as the document defines it, over words of 32 bits and bytes. No program in sight. -/
import Derived.RowKit
namespace Go.Proofs.YtmaknbcfnigbmaaDoor.Sig
set_option linter.unusedSimpArgs false

/-- The lowest n bits of a number, the highest first. -/
def toBits : Nat → Nat → List Bool
  | 0, _ => []
  | n + 1, a => (a / 2 ^ n % 2 == 1) :: toBits n a
/-- The number of bits, behind a number that stands ahead. -/
def ofBits (a : Nat) (l : List Bool) : Nat := l.foldl (fun a b => 2 * a + b.toNat) a

theorem toBits_length (n a : Nat) : (toBits n a).length = n := by
  induction n with
  | zero => rfl
  | succ n ih => simp [toBits, ih]
theorem toBits_congr (n a b : Nat) (h : a % 2 ^ n = b % 2 ^ n) : toBits n a = toBits n b := by
  induction n with
  | zero => rfl
  | succ n ih =>
    have h1 : a % 2 ^ n = b % 2 ^ n := by
      have ha := Nat.mod_mod_of_dvd a (Nat.pow_dvd_pow 2 (Nat.le_succ n))
      have hb := Nat.mod_mod_of_dvd b (Nat.pow_dvd_pow 2 (Nat.le_succ n))
      rw [← ha, ← hb, h]
    have h2 : a / 2 ^ n % 2 = b / 2 ^ n % 2 := by
      rw [Nat.pow_succ, Nat.mod_mul, Nat.mod_mul, h1] at h
      have hp : 0 < 2 ^ n := Nat.pow_pos (by decide)
      exact Nat.eq_of_mul_eq_mul_left hp (by omega)
    simp [toBits, h2, ih h1]
theorem toBits_mod (n a : Nat) : toBits n (a % 2 ^ n) = toBits n a := toBits_congr n _ _ (Nat.mod_mod _ _)
theorem toBits_split (m n a : Nat) : toBits (m + n) a = toBits m (a / 2 ^ n) ++ toBits n a := by
  induction m with
  | zero => simp [toBits]
  | succ m ih =>
    rw [show m + 1 + n = (m + n) + 1 by omega]
    simp only [toBits, List.cons_append]
    rw [ih, Nat.div_div_eq_div_mul, ← Nat.pow_add, Nat.add_comm n m]
theorem toBits_join (m n a b : Nat) (hb : b < 2 ^ n) : toBits (m + n) (a * 2 ^ n + b) = toBits m a ++ toBits n b := by
  have hp : 0 < 2 ^ n := Nat.pow_pos (by decide)
  rw [toBits_split, Nat.mul_comm, Nat.mul_add_div hp, Nat.div_eq_of_lt hb, Nat.add_zero]
  congr 1
  exact toBits_congr n _ _ (by rw [Nat.mul_add_mod])
theorem ofBits_append (a : Nat) (l r : List Bool) : ofBits a (l ++ r) = ofBits (ofBits a l) r := by simp [ofBits]
theorem ofBits_eq (l : List Bool) : ∀ a, ofBits a l = a * 2 ^ l.length + ofBits 0 l := by
  induction l with
  | nil => intro a; simp [ofBits]
  | cons b l ih =>
    intro a
    show ofBits (2 * a + b.toNat) l = _ + ofBits (2 * 0 + b.toNat) l
    rw [ih (2 * a + b.toNat), ih (2 * 0 + b.toNat), List.length_cons, Nat.pow_succ]
    rw [Nat.add_mul, Nat.add_mul, Nat.mul_zero, Nat.zero_mul, Nat.zero_add, Nat.mul_comm 2 a, Nat.mul_assoc, Nat.mul_comm 2 (2 ^ l.length)]
    omega
theorem ofBits_lt (l : List Bool) : ofBits 0 l < 2 ^ l.length := by
  induction l with
  | nil => simp [ofBits]
  | cons b l ih =>
    show ofBits (2 * 0 + b.toNat) l < _
    rw [ofBits_eq, List.length_cons, Nat.pow_succ]
    have : b.toNat ≤ 1 := by cases b <;> decide
    have h2 : (2 * 0 + b.toNat) * 2 ^ l.length ≤ 1 * 2 ^ l.length := Nat.mul_le_mul_right _ (by omega)
    omega
theorem ofBits_toBits (n a : Nat) : ofBits 0 (toBits n a) = a % 2 ^ n := by
  induction n with
  | zero => simp [toBits, ofBits, Nat.mod_one]
  | succ n ih =>
    show ofBits (2 * 0 + (a / 2 ^ n % 2 == 1).toNat) (toBits n a) = _
    rw [ofBits_eq, ih, toBits_length, Nat.pow_succ, Nat.mod_mul]
    have : (a / 2 ^ n % 2 == 1).toNat = a / 2 ^ n % 2 := by
      rcases Nat.mod_two_eq_zero_or_one (a / 2 ^ n) with h | h <;> simp [h]
    rw [this, Nat.mul_zero, Nat.zero_add, Nat.mul_comm, Nat.add_comm]
theorem toBits_ofBits (l : List Bool) : toBits l.length (ofBits 0 l) = l := by
  induction l with
  | nil => rfl
  | cons b l ih =>
    have e : ofBits 0 (b :: l) = b.toNat * 2 ^ l.length + ofBits 0 l := by
      show ofBits (2 * 0 + b.toNat) l = _
      rw [ofBits_eq]; simp
    rw [e, List.length_cons, Nat.add_comm l.length 1, toBits_join 1 l.length _ _ (ofBits_lt l), ih]
    cases b <;> simp [toBits]

/-- The bits of bytes. -/
def bitsOf (l : List UInt8) : List Bool := l.flatMap fun b => toBits 8 b.toNat
theorem bitsOf_nil : bitsOf [] = [] := rfl
theorem bitsOf_cons (b : UInt8) (l : List UInt8) : bitsOf (b :: l) = toBits 8 b.toNat ++ bitsOf l := rfl
theorem bitsOf_append (l r : List UInt8) : bitsOf (l ++ r) = bitsOf l ++ bitsOf r := by simp [bitsOf]
theorem bitsOf_length (l : List UInt8) : (bitsOf l).length = 8 * l.length := by
  induction l with
  | nil => rfl
  | cons b l ih => rw [bitsOf_cons, List.length_append, toBits_length, ih, List.length_cons]; omega

/-- The thirty-two signs. -/
def signs : List UInt8 := [48, 49, 50, 51, 52, 53, 54, 55, 56, 57, 97, 98, 99, 100, 102, 103, 104, 105, 106, 107, 108, 109, 110, 112, 113, 114, 115, 118, 119, 120, 121, 122]
def sgn (n : Nat) : UInt8 := signs.getD n 0
/-- Bits as signs of five; the last ones are filled with no bits. -/
def encB : List Bool → List UInt8
  | a :: b :: c :: d :: e :: r => sgn (ofBits 0 [a, b, c, d, e]) :: encB r
  | [a, b, c, d] => [sgn (ofBits 0 [a, b, c, d, false])]
  | [a, b, c] => [sgn (ofBits 0 [a, b, c, false, false])]
  | [a, b] => [sgn (ofBits 0 [a, b, false, false, false])]
  | [a] => [sgn (ofBits 0 [a, false, false, false, false])]
  | [] => []
def enc (l : List UInt8) : List UInt8 := encB (bitsOf l)

theorem encB_five (l r : List Bool) (h : l.length = 5) : encB (l ++ r) = sgn (ofBits 0 l) :: encB r := by
  match l, h with
  | [a, b, c, d, e], _ => rfl
theorem encB_last (l : List Bool) (h0 : 0 < l.length) (h : l.length < 5) : encB l = [sgn (ofBits 0 l * 2 ^ (5 - l.length))] := by
  match l, h0, h with
  | [a], _, _ => cases a <;> rfl
  | [a, b], _, _ => cases a <;> cases b <;> rfl
  | [a, b, c], _, _ => cases a <;> cases b <;> cases c <;> rfl
  | [a, b, c, d], _, _ => cases a <;> cases b <;> cases c <;> cases d <;> rfl
theorem encB_step (l : List Bool) (h : l ≠ []) : encB l = sgn (ofBits 0 [l.getD 0 false, l.getD 1 false, l.getD 2 false, l.getD 3 false, l.getD 4 false]) :: encB (l.drop 5) := by
  match l, h with
  | [a], _ => rfl
  | [a, b], _ => rfl
  | [a, b, c], _ => rfl
  | [a, b, c, d], _ => rfl
  | a :: b :: c :: d :: e :: r, _ => rfl
theorem encB_length (n : Nat) : ∀ l : List Bool, l.length ≤ n → (encB l).length = (l.length + 4) / 5 := by
  induction n using Nat.strongRecOn with
  | ind n ih =>
    intro l hl
    match l, hl with
    | [], _ => rfl
    | [a], _ => simp [encB]
    | [a, b], _ => simp [encB]
    | [a, b, c], _ => simp [encB]
    | [a, b, c, d], _ => simp [encB]
    | a :: b :: c :: d :: e :: r, hl =>
      simp only [List.length_cons] at hl
      have := ih (n - 5) (by omega) r (by omega)
      simp only [encB, List.length_cons, this]
      omega
theorem enc_length (l : List UInt8) : (enc l).length = (8 * l.length + 4) / 5 := by
  unfold enc
  rw [encB_length _ _ (Nat.le_refl _), bitsOf_length]
end Go.Proofs.YtmaknbcfnigbmaaDoor.Sig

namespace Go.Proofs.YtmaknbcfnigbmaaDoor.Sig
set_option linter.unusedSimpArgs false

/-- What a sign stands for; 32: it is none. -/
def sv (c : UInt8) : Nat := signs.idxOf c
theorem sv_sgn_fin : ∀ v : Fin 32, sv (sgn v.val) = v.val := by decide
theorem sv_sgn (v : Nat) (h : v < 32) : sv (sgn v) = v := sv_sgn_fin ⟨v, h⟩
theorem sgn_sv (c : UInt8) (h : sv c < 32) : sgn (sv c) = c := by
  unfold sgn sv at *
  have h2 : signs.idxOf c < signs.length := h
  rw [List.getD_eq_getElem?_getD, List.getElem?_eq_getElem h2, Option.getD_some]
  exact List.getElem_idxOf h2
/-- The bits of signs. -/
def decBits (s : List UInt8) : List Bool := s.flatMap fun c => toBits 5 (sv c)
theorem decBits_cons (c : UInt8) (s : List UInt8) : decBits (c :: s) = toBits 5 (sv c) ++ decBits s := rfl
theorem decBits_append (s t : List UInt8) : decBits (s ++ t) = decBits s ++ decBits t := by simp [decBits]
theorem decBits_length (s : List UInt8) : (decBits s).length = 5 * s.length := by
  induction s with
  | nil => rfl
  | cons c s ih => rw [decBits_cons, List.length_append, toBits_length, ih, List.length_cons]; omega
theorem five_back (l : List Bool) (h : l.length = 5) : toBits 5 (sv (sgn (ofBits 0 l))) = l := by
  have hlt := ofBits_lt l
  rw [h] at hlt
  rw [sv_sgn _ hlt, ← h]
  exact toBits_ofBits l
/-- The bits of the signs of bits: these, and no bits behind them. -/
theorem decBits_encB (n : Nat) : ∀ l : List Bool, l.length ≤ n → decBits (encB l) = l ++ List.replicate (5 * ((l.length + 4) / 5) - l.length) false := by
  induction n using Nat.strongRecOn with
  | ind n ih =>
    intro l hl
    match l, hl with
    | [], _ => rfl
    | [a], _ =>
      have h := five_back [a, false, false, false, false] rfl
      show toBits 5 (sv (sgn (ofBits 0 [a, false, false, false, false]))) ++ [] = _
      rw [List.append_nil, h]
      simp [List.replicate]
    | [a, b], _ =>
      have h := five_back [a, b, false, false, false] rfl
      show toBits 5 (sv (sgn (ofBits 0 [a, b, false, false, false]))) ++ [] = _
      rw [List.append_nil, h]
      simp [List.replicate]
    | [a, b, c], _ =>
      have h := five_back [a, b, c, false, false] rfl
      show toBits 5 (sv (sgn (ofBits 0 [a, b, c, false, false]))) ++ [] = _
      rw [List.append_nil, h]
      simp [List.replicate]
    | [a, b, c, d], _ =>
      have h := five_back [a, b, c, d, false] rfl
      show toBits 5 (sv (sgn (ofBits 0 [a, b, c, d, false]))) ++ [] = _
      rw [List.append_nil, h]
      simp [List.replicate]
    | a :: b :: c :: d :: e :: r, hl =>
      simp only [List.length_cons] at hl
      have h1 := ih (n - 5) (by omega) r (by omega)
      have h2 : encB (a :: b :: c :: d :: e :: r) = sgn (ofBits 0 [a, b, c, d, e]) :: encB r := rfl
      rw [h2, decBits_cons, h1, five_back [a, b, c, d, e] rfl, List.length_cons, List.length_cons, List.length_cons, List.length_cons, List.length_cons]
      have e1 : 5 * ((r.length + 1 + 1 + 1 + 1 + 1 + 4) / 5) - (r.length + 1 + 1 + 1 + 1 + 1) = 5 * ((r.length + 4) / 5) - r.length := by omega
      rw [e1]
      rfl
theorem decBits_enc (l : List UInt8) : decBits (enc l) = bitsOf l ++ List.replicate (5 * ((8 * l.length + 4) / 5) - 8 * l.length) false := by
  unfold enc
  rw [decBits_encB _ _ (Nat.le_refl _), bitsOf_length]
theorem byte_inj (a b : UInt8) (h : toBits 8 a.toNat = toBits 8 b.toNat) : a = b := by
  have ha := ofBits_toBits 8 a.toNat
  have hb := ofBits_toBits 8 b.toNat
  rw [h, hb] at ha
  have h1 := a.toNat_lt
  have h2 := b.toNat_lt
  apply UInt8.toNat_inj.mp
  omega
theorem bitsOf_inj : ∀ a b : List UInt8, bitsOf a = bitsOf b → a = b := by
  intro a
  induction a with
  | nil =>
    intro b h
    have := congrArg List.length h
    rw [bitsOf_length, bitsOf_length] at this
    cases b with
    | nil => rfl
    | cons x y => simp at this
  | cons x a ih =>
    intro b h
    cases b with
    | nil =>
      have := congrArg List.length h
      rw [bitsOf_length, bitsOf_length] at this
      simp at this
    | cons y b =>
      rw [bitsOf_cons, bitsOf_cons] at h
      obtain ⟨h1, h2⟩ := List.append_inj h (by rw [toBits_length, toBits_length])
      rw [byte_inj x y h1, ih b h2]
theorem enc_inj (a b : List UInt8) (h : enc a = enc b) : a = b := by
  have hl := congrArg List.length h
  rw [enc_length, enc_length] at hl
  have hd := decBits_enc a
  rw [h, decBits_enc b] at hd
  have hn : a.length = b.length := by omega
  exact (bitsOf_inj b a (List.append_inj hd (by rw [bitsOf_length, bitsOf_length, hn])).1).symm
end Go.Proofs.YtmaknbcfnigbmaaDoor.Sig

namespace Go.Proofs.YtmaknbcfnigbmaaDoor.Sig
set_option linter.unusedSimpArgs false

theorem sv_le (c : UInt8) : sv c ≤ 32 := by
  unfold sv
  exact List.idxOf_le_length
theorem ofBits5_lt (l : List Bool) (h : l.length = 5) : ofBits 0 l < 32 := by
  have := ofBits_lt l
  rw [h] at this
  exact this
/-- Signs that are told are signs. -/
theorem encB_valid (n : Nat) : ∀ l : List Bool, l.length ≤ n → ∀ c ∈ encB l, sv c < 32 := by
  induction n using Nat.strongRecOn with
  | ind n ih =>
    intro l hl c hc
    match l, hl with
    | [], _ => cases hc
    | [a], _ => simp [encB] at hc; subst hc; rw [sv_sgn _ (ofBits5_lt _ rfl)]; exact ofBits5_lt _ rfl
    | [a, b], _ => simp [encB] at hc; subst hc; rw [sv_sgn _ (ofBits5_lt _ rfl)]; exact ofBits5_lt _ rfl
    | [a, b, d], _ => simp [encB] at hc; subst hc; rw [sv_sgn _ (ofBits5_lt _ rfl)]; exact ofBits5_lt _ rfl
    | [a, b, d, e], _ => simp [encB] at hc; subst hc; rw [sv_sgn _ (ofBits5_lt _ rfl)]; exact ofBits5_lt _ rfl
    | a :: b :: d :: e :: f :: r, hl =>
      simp only [List.length_cons] at hl
      have h2 : encB (a :: b :: d :: e :: f :: r) = sgn (ofBits 0 [a, b, d, e, f]) :: encB r := rfl
      rw [h2, List.mem_cons] at hc
      rcases hc with rfl | hc
      · rw [sv_sgn _ (ofBits5_lt _ rfl)]; exact ofBits5_lt _ rfl
      · exact ih (n - 5) (by omega) r (by omega) c hc
theorem enc_valid (l : List UInt8) : ∀ c ∈ enc l, sv c < 32 := encB_valid _ _ (Nat.le_refl _)
theorem five_inj (a b : Nat) (ha : a < 32) (hb : b < 32) (h : toBits 5 a = toBits 5 b) : a = b := by
  have h1 := ofBits_toBits 5 a
  have h2 := ofBits_toBits 5 b
  rw [h, h2] at h1
  omega
theorem decBits_inj : ∀ s t : List UInt8, (∀ c ∈ s, sv c < 32) → (∀ c ∈ t, sv c < 32) → decBits s = decBits t → s = t := by
  intro s
  induction s with
  | nil =>
    intro t _ _ h
    have hl := congrArg List.length h
    rw [decBits_length, decBits_length] at hl
    cases t with
    | nil => rfl
    | cons x y => simp at hl
  | cons x s ih =>
    intro t hs ht h
    cases t with
    | nil =>
      have hl := congrArg List.length h
      rw [decBits_length, decBits_length] at hl
      simp at hl
    | cons y t =>
      rw [decBits_cons, decBits_cons] at h
      obtain ⟨h1, h2⟩ := List.append_inj h (by rw [toBits_length, toBits_length])
      have hx := hs x (List.mem_cons_self ..)
      have hy := ht y (List.mem_cons_self ..)
      have h3 := five_inj _ _ hx hy h1
      have h4 : x = y := by rw [← sgn_sv x hx, h3, sgn_sv y hy]
      rw [h4, ih t (fun c hc => hs c (List.mem_cons_of_mem _ hc)) (fun c hc => ht c (List.mem_cons_of_mem _ hc)) h2]
/-- How many signs end with how many bytes. -/
def tailOf (r : Nat) : Nat := [0, 2, 4, 5, 7].getD r 0
def lenOk (len : Nat) : Prop := len * 5 / 8 / 5 * 8 + tailOf (len * 5 / 8 % 5) = len
theorem tailOf_eq (r : Nat) (h : r < 5) : tailOf r = (8 * r + 4) / 5 := by
  have : r = 0 ∨ r = 1 ∨ r = 2 ∨ r = 3 ∨ r = 4 := by omega
  rcases this with rfl | rfl | rfl | rfl | rfl <;> rfl
theorem lenOk_iff (len : Nat) : lenOk len ↔ (8 * (len * 5 / 8) + 4) / 5 = len := by
  unfold lenOk
  have h := tailOf_eq (len * 5 / 8 % 5) (Nat.mod_lt _ (by decide))
  rw [h]
  generalize len * 5 / 8 = n
  omega
theorem lenOk_enc (l : List UInt8) : lenOk (enc l).length := by
  rw [lenOk_iff, enc_length]
  have h : (8 * l.length + 4) / 5 * 5 / 8 = l.length := by omega
  rw [h]
/-- The bits of a text of signs: some bytes', and fewer than eight that are none. -/
theorem enc_of_bits (s acc : List UInt8) (m : Nat) (hm : m < 8) (hl : lenOk s.length) (hv : ∀ c ∈ s, sv c < 32) (hb : decBits s = bitsOf acc ++ List.replicate m false) : enc acc = s := by
  have h1 := congrArg List.length hb
  rw [decBits_length, List.length_append, bitsOf_length, List.length_replicate] at h1
  rw [lenOk_iff] at hl
  have h2 : s.length * 5 / 8 = acc.length := by omega
  rw [h2] at hl
  apply decBits_inj _ _ (enc_valid acc) hv
  rw [decBits_enc, hb]
  congr 2
  omega
theorem bits_of_enc (s acc : List UInt8) (m : Nat) (t : List Bool) (ht : t.length = m) (hm : m < 8) (hb : decBits s = bitsOf acc ++ t) (b : List UInt8) (h : enc b = s) : b = acc ∧ t = List.replicate m false := by
  have h1 := congrArg List.length hb
  rw [decBits_length, List.length_append, bitsOf_length, ht] at h1
  have h2 := congrArg List.length h
  rw [enc_length] at h2
  have h3 := decBits_enc b
  rw [h, hb] at h3
  have h4 : b.length = acc.length := by omega
  obtain ⟨h5, h6⟩ := List.append_inj h3 (by rw [bitsOf_length, bitsOf_length, h4])
  refine ⟨(bitsOf_inj _ _ h5).symm, h6.trans ?_⟩
  congr 1
  omega
theorem toBits_zero (m h : Nat) : toBits m h = List.replicate m false ↔ h % 2 ^ m = 0 := by
  constructor
  · intro e
    rw [← ofBits_toBits, e]
    have : ∀ m, ofBits 0 (List.replicate m false) = 0 := by
      intro m
      induction m with
      | zero => rfl
      | succ m ih =>
        rw [List.replicate_succ]
        show ofBits (2 * 0 + 0) _ = 0
        exact ih
    exact this m
  · intro e
    have h0 : toBits m h = toBits m 0 := toBits_congr m h 0 (by rw [e]; simp)
    rw [h0]
    clear h0 e
    induction m with
    | zero => rfl
    | succ m ih => simp [toBits, List.replicate_succ, ih]
end Go.Proofs.YtmaknbcfnigbmaaDoor.Sig

namespace Go.Proofs.YtmaknbcfnigbmaaDoor.Sha

/-- Words laid together, under names that the walk leaves alone. -/
def ad (a b : UInt32) : UInt32 := a + b
def xo (a b : UInt32) : UInt32 := a ^^^ b
def an (a b : UInt32) : UInt32 := a &&& b
def oo (a b : UInt32) : UInt32 := a ||| b
def bn (a b : UInt32) : UInt32 := a &&& ~~~b
def no (a : UInt32) : UInt32 := ~~~a
/-- Rotated to the right by n, and shifted. -/
def rr (n : Nat) (x : UInt32) : UInt32 := UInt32.ofNat (x.toNat / 2 ^ n + x.toNat % 2 ^ n * 2 ^ (32 - n))
def sr (n : Nat) (x : UInt32) : UInt32 := UInt32.ofNat (x.toNat / 2 ^ n)

def big1 (x : UInt32) : UInt32 := xo (xo (rr 6 x) (rr 11 x)) (rr 25 x)
def big0 (x : UInt32) : UInt32 := xo (xo (rr 2 x) (rr 13 x)) (rr 22 x)
def sm0 (x : UInt32) : UInt32 := xo (xo (rr 7 x) (rr 18 x)) (sr 3 x)
def sm1 (x : UInt32) : UInt32 := xo (xo (rr 17 x) (rr 19 x)) (sr 10 x)
/-- The number of bytes, the highest first. -/
def numB (l : List UInt8) : Nat := l.foldl (fun a b => a * 256 + b.toNat) 0
/-- The lowest n bytes of a number, the highest first. -/
def beB : Nat → Nat → List UInt8
  | 0, _ => []
  | n + 1, v => UInt8.ofNat (v / 256 ^ n) :: beB n v
/-- The words of a block. -/
def word (b : List UInt8) (i : Nat) : UInt32 := UInt32.ofNat (numB ((b.drop (4 * i)).take 4))
def nextW (l : List UInt32) (i : Nat) : UInt32 := ad (ad (ad (l.getD (i - 16) 0) (sm0 (l.getD (i - 15) 0))) (l.getD (i - 7) 0)) (sm1 (l.getD (i - 2) 0))
def wds (b : List UInt8) : Nat → List UInt32
  | 0 => []
  | k + 1 => wds b k ++ [if k < 16 then word b k else nextW (wds b k) k]
def cubes : List UInt32 := [0x428a2f98, 0x71374491, 0xb5c0fbcf, 0xe9b5dba5, 0x3956c25b, 0x59f111f1, 0x923f82a4, 0xab1c5ed5, 0xd807aa98, 0x12835b01, 0x243185be, 0x550c7dc3, 0x72be5d74, 0x80deb1fe, 0x9bdc06a7, 0xc19bf174, 0xe49b69c1, 0xefbe4786, 0x0fc19dc6, 0x240ca1cc, 0x2de92c6f, 0x4a7484aa, 0x5cb0a9dc, 0x76f988da, 0x983e5152, 0xa831c66d, 0xb00327c8, 0xbf597fc7, 0xc6e00bf3, 0xd5a79147, 0x06ca6351, 0x14292967, 0x27b70a85, 0x2e1b2138, 0x4d2c6dfc, 0x53380d13, 0x650a7354, 0x766a0abb, 0x81c2c92e, 0x92722c85, 0xa2bfe8a1, 0xa81a664b, 0xc24b8b70, 0xc76c51a3, 0xd192e819, 0xd6990624, 0xf40e3585, 0x106aa070, 0x19a4c116, 0x1e376c08, 0x2748774c, 0x34b0bcb5, 0x391c0cb3, 0x4ed8aa4a, 0x5b9cca4f, 0x682e6ff3, 0x748f82ee, 0x78a5636f, 0x84c87814, 0x8cc70208, 0x90befffa, 0xa4506ceb, 0xbef9a3f7, 0xc67178f2]
def squares : List UInt32 := [0x6a09e667, 0xbb67ae85, 0x3c6ef372, 0xa54ff53a, 0x510e527f, 0x9b05688c, 0x1f83d9ab, 0x5be0cd19]
def tOf (k w e f g h : UInt32) : UInt32 := ad (ad (ad (ad h (big1 e)) (xo (an e f) (bn g e))) k) w
def uOf (a b c : UInt32) : UInt32 := ad (big0 a) (oo (an a b) (an c (oo a b)))
def rnd (k w : UInt32) : List UInt32 → List UInt32
  | [a, b, c, d, e, f, g, h] => [ad (tOf k w e f g h) (uOf a b c), a, b, c, ad d (tOf k w e f g h), e, f, g]
  | l => l
def rnds (ws s : List UInt32) : Nat → List UInt32
  | 0 => s
  | i + 1 => rnd (cubes.getD i 0) (ws.getD i 0) (rnds ws s i)
/-- A block taken into a digest. -/
def addB (s : List UInt32) (b : List UInt8) : List UInt32 := List.zipWith ad s (rnds (wds b 64) s 64)
def sumBlocks : List UInt32 → Nat → List UInt8 → List UInt32
  | s, 0, _ => s
  | s, n + 1, m => sumBlocks (addB s (m.take 64)) n (m.drop 64)
/-- What stands behind n bytes. -/
def padZ (n : Nat) : Nat := (119 - n % 64) % 64
def padOf (n : Nat) : List UInt8 := 0x80 :: (List.replicate (padZ n) 0 ++ beB 8 (8 * n))
def outB (s : List UInt32) : List UInt8 := s.flatMap fun v => beB 4 v.toNat
def sum (b : List UInt8) : List UInt8 := outB (sumBlocks squares ((b.length + 9 + padZ b.length) / 64) (b ++ padOf b.length))

theorem beB_length (n v : Nat) : (beB n v).length = n := by
  induction n with
  | zero => rfl
  | succ n ih => simp [beB, ih]
theorem wds_length (b : List UInt8) (k : Nat) : (wds b k).length = k := by
  induction k with
  | zero => rfl
  | succ k ih => simp [wds, ih]
theorem rnd_length (k w : UInt32) (l : List UInt32) : (rnd k w l).length = l.length := by
  unfold rnd
  split <;> simp only [List.length_cons]
theorem rnds_length (ws s : List UInt32) (i : Nat) : (rnds ws s i).length = s.length := by
  induction i with
  | zero => rfl
  | succ i ih => rw [rnds, rnd_length, ih]
theorem addB_length (s : List UInt32) (b : List UInt8) : (addB s b).length = s.length := by
  simp [addB, rnds_length]
theorem sumBlocks_length (n : Nat) : ∀ (s : List UInt32) (m : List UInt8), (sumBlocks s n m).length = s.length := by
  induction n with
  | zero => intro s m; rfl
  | succ n ih => intro s m; rw [sumBlocks, ih, addB_length]
theorem eight_of (l : List UInt32) (h : l.length = 8) : ∃ a b c d e f g i, l = [a, b, c, d, e, f, g, i] := by
  match l, h with
  | [a, b, c, d, e, f, g, i], _ => exact ⟨a, b, c, d, e, f, g, i, rfl⟩
theorem sumBlocks_split (q r : Nat) : ∀ (s : List UInt32) (b p : List UInt8), 64 * q ≤ b.length → sumBlocks s (q + r) (b ++ p) = sumBlocks (sumBlocks s q b) r (b.drop (64 * q) ++ p) := by
  induction q with
  | zero => intro s b p _; simp [sumBlocks]
  | succ q ih =>
    intro s b p h
    rw [show q + 1 + r = (q + r) + 1 by omega, sumBlocks, sumBlocks, List.take_append_of_le_length (by omega), List.drop_append_of_le_length (by omega), ih _ _ _ (by rw [List.length_drop]; omega), List.drop_drop]
    congr 3
    omega
theorem sumBlocks_take (n : Nat) : ∀ (s : List UInt32) (b : List UInt8), sumBlocks s (n + 1) b = addB (sumBlocks s n b) ((b.drop (64 * n)).take 64) := by
  induction n with
  | zero => intro s b; simp [sumBlocks]
  | succ n ih =>
    intro s b
    rw [sumBlocks, ih, sumBlocks, List.drop_drop]
    congr 3
    omega
theorem padOf_length (n : Nat) : (padOf n).length = 9 + padZ n := by simp [padOf, beB_length]; omega
theorem padZ_lt (n : Nat) : padZ n < 64 := Nat.mod_lt _ (by decide)
theorem padZ_mod (n : Nat) : (n + 1 + padZ n) % 64 = 56 := by unfold padZ; omega
theorem outB_length (s : List UInt32) : (outB s).length = 4 * s.length := by
  induction s with
  | nil => rfl
  | cons v s ih => simp only [outB, List.flatMap_cons, List.length_append, beB_length, List.length_cons] at ih ⊢; omega
theorem sum_length (b : List UInt8) : (sum b).length = 32 := by
  unfold sum
  rw [outB_length, sumBlocks_length]
  simp only [squares, List.length_cons, List.length_nil]
/-- What is left of the bytes behind the last whole block, and what stands behind it. -/
def tailOf (l : List UInt8) : List UInt8 := l.drop (64 * (l.length / 64)) ++ padOf l.length
theorem tailOf_length (l : List UInt8) : (tailOf l).length = l.length % 64 + 9 + padZ l.length := by
  unfold tailOf
  rw [List.length_append, List.length_drop, padOf_length]
  omega
theorem tailOf_mod (l : List UInt8) : (tailOf l).length % 64 = 0 := by
  rw [tailOf_length]
  have := padZ_mod l.length
  omega
theorem sum_eq (l : List UInt8) : sum l = outB (sumBlocks (sumBlocks squares (l.length / 64) l) ((tailOf l).length / 64) (tailOf l)) := by
  have h := sumBlocks_split (l.length / 64) ((tailOf l).length / 64) squares l (padOf l.length) (by omega)
  unfold sum
  rw [← show (l.length / 64 + (tailOf l).length / 64) = (l.length + 9 + padZ l.length) / 64 by rw [tailOf_length]; omega, h]
  rfl
/-- The zeros are all laid just where the length fits. -/
theorem pad_done (l : List UInt8) (z : Nat) (hz : z ≤ padZ l.length) (h : (l.length % 64 + 1 + z) % 64 = 56) : z = padZ l.length := by
  have := padZ_mod l.length
  have := padZ_lt l.length
  omega
theorem pad_more (l : List UInt8) (z : Nat) (hz : z ≤ padZ l.length) (h : (l.length % 64 + 1 + z) % 64 ≠ 56) : z < padZ l.length := by
  have := padZ_mod l.length
  rcases Nat.lt_or_eq_of_le hz with h1 | h1
  · exact h1
  · subst h1; omega
/-- The majority, told in two ways. -/
theorem maj_eq (a b c : UInt32) : xo (xo (an a b) (an a c)) (an b c) = oo (an a b) (an c (oo a b)) := by
  unfold xo an oo
  apply UInt32.toBitVec_inj.1
  apply BitVec.eq_of_getLsbD_eq
  intro i hi
  simp only [UInt32.toBitVec_xor, UInt32.toBitVec_and, UInt32.toBitVec_or, BitVec.getLsbD_xor, BitVec.getLsbD_and, BitVec.getLsbD_or]
  cases a.toBitVec.getLsbD i <;> cases b.toBitVec.getLsbD i <;> cases c.toBitVec.getLsbD i <;> rfl
theorem ch_eq (e f g : UInt32) : xo (an e f) (an (no e) g) = xo (an e f) (bn g e) := by
  unfold xo an bn no
  rw [UInt32.and_comm (~~~e) g]
theorem ad_comm (a b : UInt32) : ad a b = ad b a := UInt32.add_comm a b
theorem ad_assoc (a b c : UInt32) : ad (ad a b) c = ad a (ad b c) := UInt32.add_assoc a b c
/-- The reference's order of the sum. -/
theorem nextW_ref (l : List UInt32) (i : Nat) : ad (ad (ad (sm1 (l.getD (i - 2) 0)) (l.getD (i - 7) 0)) (sm0 (l.getD (i - 15) 0))) (l.getD (i - 16) 0) = nextW l i := by
  unfold nextW ad
  generalize l.getD (i - 16) 0 = a
  generalize sm0 _ = b
  generalize l.getD (i - 7) 0 = c
  generalize sm1 _ = d
  ac_rfl
end Go.Proofs.YtmaknbcfnigbmaaDoor.Sha
