/- What the references' Encode and Decode of layer 1 tell, off their printed functions: the signs of bytes; the bytes whose signs a text is, or none. -/
import Derived.Test.YtmaknbcfnigbmaaDoorPBitsSignsx1
import Derived.Test.YtmaknbcfnigbmaaDoorSig3
import Derived.Laws.BytesArg
namespace Go.Proofs.YtmaknbcfnigbmaaDoor.Ref01
set_option linter.unusedSimpArgs false
open Go.RowKit Go.Proofs.YtmaknbcfnigbmaaDoor.Sig Go.Proofs.YtmaknbcfnigbmaaDoor.PBitsSigns Go.Proofs.YtmaknbcfnigbmaaDoorW.PrintWords Go.Proofs.YtmaknbcfnigbmaaDoorW.PrintLast Go.Proofs.YtmaknbcfnigbmaaDoorW.PrintMore

def ints (l : List UInt8) : List Int := l.map fun b => (b.toNat : Int)
theorem ints_length (l : List UInt8) : (ints l).length = l.length := by simp [ints]
theorem ints_append (a b : List UInt8) : ints (a ++ b) = ints a ++ ints b := by simp [ints]
theorem rd_ints (l : List UInt8) (i : Nat) (h : i < l.length) : rd (ints l) (i : Int) = (l[i].toNat : Int) := by simp [rd, ints, h]
theorem str_ints (l : List UInt8) : strOfNums (ints l) = ⟨l.toArray⟩ := by
  unfold strOfNums ints
  rw [List.map_map]
  congr 2
  conv => rhs; rw [← List.map_id l]
  apply List.map_congr_left
  intro b _
  simp

theorem bit_byte (b : UInt8) (r : Nat) (h : r < 8) : (toBits 8 b.toNat).getD r false = (b.toNat / 2 ^ (7 - r) % 2 == 1) := by
  have : r = 0 ∨ r = 1 ∨ r = 2 ∨ r = 3 ∨ r = 4 ∨ r = 5 ∨ r = 6 ∨ r = 7 := by omega
  rcases this with rfl | rfl | rfl | rfl | rfl | rfl | rfl | rfl <;> rfl
theorem bit_at (l : List UInt8) : ∀ (q r : Nat) (hq : q < l.length), r < 8 → (bitsOf l).getD (8 * q + r) false = (l[q].toNat / 2 ^ (7 - r) % 2 == 1) := by
  induction l with
  | nil => intro q r hq; simp at hq
  | cons b l ih =>
    intro q r hq hr
    rw [bitsOf_cons]
    cases q with
    | zero =>
      rw [List.getD_eq_getElem?_getD, List.getElem?_append_left (by rw [toBits_length]; omega), ← List.getD_eq_getElem?_getD]
      simpa using bit_byte b r hr
    | succ q =>
      rw [List.getD_eq_getElem?_getD, List.getElem?_append_right (by rw [toBits_length]; omega), toBits_length, ← List.getD_eq_getElem?_getD]
      rw [show 8 * (q + 1) + r - 8 = 8 * q + r by omega]
      exact ih q r (by simpa using hq) hr
theorem bit_out (l : List UInt8) (k : Nat) (h : l.length ≤ k / 8) : (bitsOf l).getD k false = false := by
  rw [List.getD_eq_getElem?_getD, List.getElem?_eq_none (by rw [bitsOf_length]; omega)]
  rfl
theorem bit_f (l : List UInt8) (k : Nat) (hk : k ≤ 1125899906842624) : stillroomref01_bit.f (ints l) (k : Int) = some (if (bitsOf l).getD k false then 1 else 0) := by
  have e1 : wrap64 (Int.tdiv (k : Int) 8) = ((k / 8 : Nat) : Int) := by
    rw [Int.tdiv_eq_ediv_of_nonneg (by omega)]; unfold wrap64; omega
  have e2 : Int.tmod (k : Int) 8 = ((k % 8 : Nat) : Int) := by rw [Int.tmod_eq_emod_of_nonneg (by omega)]; omega
  have e3 : IntKind.u64.wrap (wrap64 (7 - ((k % 8 : Nat) : Int))) = ((7 - k % 8 : Nat) : Int) := by
    have : IntKind.u64.wrap (wrap64 (7 - ((k % 8 : Nat) : Int))) = wrap64 (7 - ((k % 8 : Nat) : Int)) % 18446744073709551616 := by simp [IntKind.wrap, IntKind.bits, IntKind.signed]
    rw [this]; unfold wrap64; omega
  unfold stillroomref01_bit.f
  rw [e1, e2, e3, ints_length]
  by_cases h : (((k / 8 : Nat) : Int)) ≥ (l.length : Int)
  · rw [if_pos h, bit_out l k (by omega)]; rfl
  · have hq : k / 8 < l.length := by omega
    rw [if_neg h, if_pos (by omega), if_pos (by omega), if_pos (by omega), rd_ints l (k / 8) hq]
    have e4 : shr .u8 (l[k / 8].toNat : Int) ((7 - k % 8 : Nat) : Int) = ((l[k / 8].toNat / 2 ^ (7 - k % 8) : Nat) : Int) := by
      unfold shr
      rw [Int.toNat_natCast, Nat.min_eq_left (by show 7 - k % 8 ≤ 8; omega)]
      simp
    rw [e4]
    have hb := bit_at l (k / 8) (k % 8) hq (Nat.mod_lt _ (by decide))
    rw [show 8 * (k / 8) + k % 8 = k by omega] at hb
    rw [hb]
    have hlt : l[k / 8].toNat / 2 ^ (7 - k % 8) < 256 := Nat.lt_of_le_of_lt (Nat.div_le_self _ _) (UInt8.toNat_lt _)
    generalize l[k / 8].toNat / 2 ^ (7 - k % 8) = x at *
    have e5 : wrap64 (x : Int) = (x : Int) := by unfold wrap64; omega
    rw [e5, Int.tmod_eq_emod_of_nonneg (by omega)]
    rcases Nat.mod_two_eq_zero_or_one x with hx | hx
    · rw [hx]; simp; omega
    · rw [hx]; simp; omega

theorem bt_sgn : ∀ v : Fin 32, bt (⟨#[48, 49, 50, 51, 52, 53, 54, 55, 56, 57, 97, 98, 99, 100, 102, 103, 104, 105, 106, 107, 108, 109, 110, 112, 113, 114, 115, 118, 119, 120, 121, 122]⟩ : ByteArray) ((v.val : Nat) : Int) = ((sgn v.val).toNat : Int) := by decide
def b01 (b : Bool) : Int := if b then 1 else 0
/-- One group of five: from the head of the inner loop to the head of the outer one. -/
theorem group (l acc : List UInt8) (pos k : Nat) (hp : pos ≤ 1125899906842000) (hacc : acc.length < 140737488355328) :
    stillroomref01_Encode.l1 (k + 6) (ints l) (ints acc) (pos : Int) 0 0 =
      stillroomref01_Encode.l0 k (ints l) (ints (acc ++ [sgn (ofBits 0 [(bitsOf l).getD pos false, (bitsOf l).getD (pos + 1) false, (bitsOf l).getD (pos + 2) false, (bitsOf l).getD (pos + 3) false, (bitsOf l).getD (pos + 4) false])])) ((pos + 5 : Nat) : Int) := by
  have step : ∀ (x j k : Nat), j < 5 → x < 32 → stillroomref01_Encode.l1 (k + 1) (ints l) (ints acc) (pos : Int) (x : Int) (j : Int) = stillroomref01_Encode.l1 k (ints l) (ints acc) (pos : Int) ((2 * x + ((bitsOf l).getD (pos + j) false).toNat : Nat) : Int) ((j + 1 : Nat) : Int) := by
    intro x j k hj hx
    simp only [stillroomref01_Encode.l1]
    have e1 : wrap64 ((pos : Int) + (j : Int)) = ((pos + j : Nat) : Int) := by unfold wrap64; omega
    have e2 : wrap64 ((j : Int) + 1) = ((j + 1 : Nat) : Int) := by unfold wrap64; omega
    rw [if_pos (by omega), e1, e2, bit_f l (pos + j) (by omega), Option.bind_some]
    congr 1
    cases (bitsOf l).getD (pos + j) false
    · simp only [Bool.toNat_false, if_neg (by decide : ¬ (false = true))]; unfold wrap64; omega
    · simp only [Bool.toNat_true, if_true]; unfold wrap64; omega
  have hb : ∀ b : Bool, b.toNat ≤ 1 := by intro b; cases b <;> decide
  have h0 := hb ((bitsOf l).getD (pos + 0) false)
  have h1 := hb ((bitsOf l).getD (pos + 1) false)
  have h2 := hb ((bitsOf l).getD (pos + 2) false)
  have h3 := hb ((bitsOf l).getD (pos + 3) false)
  have h4 := hb ((bitsOf l).getD (pos + 4) false)
  have s0 := step 0 0 (k + 5) (by omega) (by omega)
  have s1 := step (2 * 0 + ((bitsOf l).getD (pos + 0) false).toNat) 1 (k + 4) (by omega) (by omega)
  have s2 := step (2 * (2 * 0 + ((bitsOf l).getD (pos + 0) false).toNat) + ((bitsOf l).getD (pos + 1) false).toNat) 2 (k + 3) (by omega) (by omega)
  have s3 := step (2 * (2 * (2 * 0 + ((bitsOf l).getD (pos + 0) false).toNat) + ((bitsOf l).getD (pos + 1) false).toNat) + ((bitsOf l).getD (pos + 2) false).toNat) 3 (k + 2) (by omega) (by omega)
  have s4 := step (2 * (2 * (2 * (2 * 0 + ((bitsOf l).getD (pos + 0) false).toNat) + ((bitsOf l).getD (pos + 1) false).toNat) + ((bitsOf l).getD (pos + 2) false).toNat) + ((bitsOf l).getD (pos + 3) false).toNat) 4 (k + 1) (by omega) (by omega)
  have hv : ofBits 0 [(bitsOf l).getD pos false, (bitsOf l).getD (pos + 1) false, (bitsOf l).getD (pos + 2) false, (bitsOf l).getD (pos + 3) false, (bitsOf l).getD (pos + 4) false] = 2 * (2 * (2 * (2 * (2 * 0 + ((bitsOf l).getD (pos + 0) false).toNat) + ((bitsOf l).getD (pos + 1) false).toNat) + ((bitsOf l).getD (pos + 2) false).toNat) + ((bitsOf l).getD (pos + 3) false).toNat) + ((bitsOf l).getD (pos + 4) false).toNat := rfl
  have hlt : ofBits 0 [(bitsOf l).getD pos false, (bitsOf l).getD (pos + 1) false, (bitsOf l).getD (pos + 2) false, (bitsOf l).getD (pos + 3) false, (bitsOf l).getD (pos + 4) false] < 32 := ofBits5_lt _ rfl
  refine s0.trans (s1.trans (s2.trans (s3.trans (s4.trans ?_))))
  rw [← hv]
  generalize ofBits 0 [(bitsOf l).getD pos false, (bitsOf l).getD (pos + 1) false, (bitsOf l).getD (pos + 2) false, (bitsOf l).getD (pos + 3) false, (bitsOf l).getD (pos + 4) false] = v at *
  have hbt := bt_sgn ⟨v, hlt⟩
  simp only [stillroomref01_Encode.l1]
  have e5 : wrap64 ((pos : Int) + 5) = ((pos + 5 : Nat) : Int) := by unfold wrap64; omega
  rw [if_neg (by omega), if_pos (by omega), if_pos (by omega), if_pos (by rw [ints_length]; exact hacc), e5, ints_append]
  show stillroomref01_Encode.l0 k (ints l) (ints acc ++ [bt _ (v : Int)]) _ = _
  rw [hbt]
  rfl
theorem encode_l0 (l : List UInt8) (hl : l.length ≤ 70368744177664) : ∀ (d pos k : Nat) (acc : List UInt8), 8 * l.length ≤ pos + 5 * d → 7 * d + 1 ≤ k → pos ≤ 8 * l.length + 5 → acc ++ encB ((bitsOf l).drop pos) = enc l → stillroomref01_Encode.l0 k (ints l) (ints acc) (pos : Int) = some ⟨(enc l).toArray⟩ := by
  intro d
  induction d with
  | zero =>
    intro pos k acc h1 h2 h3 h4
    obtain ⟨k, rfl⟩ : ∃ m, k = m + 1 := ⟨k - 1, by omega⟩
    simp only [stillroomref01_Encode.l0]
    have e : wrap64 (8 * ((ints l).length : Int)) = ((8 * l.length : Nat) : Int) := by rw [ints_length]; unfold wrap64; omega
    rw [List.drop_eq_nil_of_le (by rw [bitsOf_length]; omega)] at h4
    have h5 : acc = enc l := by simpa [encB] using h4
    rw [e, if_neg (by omega), str_ints, h5]
  | succ d ih =>
    intro pos k acc h1 h2 h3 h4
    obtain ⟨k, rfl⟩ : ∃ m, k = m + 7 := ⟨k - 7, by omega⟩
    have e : wrap64 (8 * ((ints l).length : Int)) = ((8 * l.length : Nat) : Int) := by rw [ints_length]; unfold wrap64; omega
    by_cases hp : pos < 8 * l.length
    · have hl1 := congrArg List.length h4
      rw [List.length_append, enc_length] at hl1
      have hne : (bitsOf l).drop pos ≠ [] := by
        intro h
        have := congrArg List.length h
        rw [List.length_drop, bitsOf_length] at this
        simp at this
        omega
      rw [encB_step _ hne, List.drop_drop] at h4
      have hg : ∀ i, ((bitsOf l).drop pos).getD i false = (bitsOf l).getD (pos + i) false := by
        intro i
        rw [List.getD_eq_getElem?_getD, List.getElem?_drop, ← List.getD_eq_getElem?_getD]
      rw [hg 0, hg 1, hg 2, hg 3, hg 4] at h4
      simp only [stillroomref01_Encode.l0]
      rw [e, if_pos (by omega), group l acc pos k (by omega) (by omega)]
      exact ih (pos + 5) k _ (by omega) (by omega) (by omega) (by rw [List.append_assoc]; exact h4)
    · rw [List.drop_eq_nil_of_le (by rw [bitsOf_length]; omega)] at h4
      have h5 : acc = enc l := by simpa [encB] using h4
      simp only [stillroomref01_Encode.l0]
      rw [e, if_neg (by omega), str_ints, h5]
theorem encode_f (l : List UInt8) (hl : l.length ≤ 70368744177664) (k : Nat) (hk : 14 * l.length + 8 ≤ k) : stillroomref01_Encode.f k (ints l) = some ⟨(enc l).toArray⟩ := by
  unfold stillroomref01_Encode.f
  exact encode_l0 l hl ((8 * l.length + 4) / 5) 0 k [] (by omega) (by omega) (by omega) rfl
end Go.Proofs.YtmaknbcfnigbmaaDoor.Ref01
