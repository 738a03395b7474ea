/- What the references' Encode and Decode of layer 1 tell, off their printed functions: the signs of bytes; the bytes whose signs a text is, or none. What the reference's Decode of layer 1 tells, off its printed function: the bytes whose signs a text is, or none. What the reference's Decode of layer 1 answers: the bytes whose signs a text is, or none. -/
import Derived.Test.YtmaknbcfnigbmaaDoorPBitsSignsx1
import Derived.Test.YtmaknbcfnigbmaaDoorPlain
import Derived.Laws.BytesArg
namespace Go.Proofs.YtmaknbcfnigbmaaDoor.Ref01
set_option linter.unusedSimpArgs false
open Go.RowKit Go.Proofs.YtmaknbcfnigbmaaDoor.Sig Go.Proofs.YtmaknbcfnigbmaaDoor.PBitsSigns Go.Proofs.YtmaknbcfnigbmaaDoorW.PrintWords Go.Proofs.YtmaknbcfnigbmaaDoorW.PrintLast Go.Proofs.YtmaknbcfnigbmaaDoorW.PrintMore

def ints (l : List UInt8) : List Int := l.map fun b => (b.toNat : Int)
theorem ints_length (l : List UInt8) : (ints l).length = l.length := by simp [ints]
theorem ints_append (a b : List UInt8) : ints (a ++ b) = ints a ++ ints b := by simp [ints]
theorem rd_ints (l : List UInt8) (i : Nat) (h : i < l.length) : rd (ints l) (i : Int) = (l[i].toNat : Int) := by simp [rd, ints, h]
theorem str_ints (l : List UInt8) : strOfNums (ints l) = ⟨l.toArray⟩ := by
  unfold strOfNums ints
  rw [List.map_map]
  congr 2
  conv => rhs; rw [← List.map_id l]
  apply List.map_congr_left
  intro b _
  simp

theorem bit_byte (b : UInt8) (r : Nat) (h : r < 8) : (toBits 8 b.toNat).getD r false = (b.toNat / 2 ^ (7 - r) % 2 == 1) := by
  have : r = 0 ∨ r = 1 ∨ r = 2 ∨ r = 3 ∨ r = 4 ∨ r = 5 ∨ r = 6 ∨ r = 7 := by omega
  rcases this with rfl | rfl | rfl | rfl | rfl | rfl | rfl | rfl <;> rfl
theorem bit_at (l : List UInt8) : ∀ (q r : Nat) (hq : q < l.length), r < 8 → (bitsOf l).getD (8 * q + r) false = (l[q].toNat / 2 ^ (7 - r) % 2 == 1) := by
  induction l with
  | nil => intro q r hq; simp at hq
  | cons b l ih =>
    intro q r hq hr
    rw [bitsOf_cons]
    cases q with
    | zero =>
      rw [List.getD_eq_getElem?_getD, List.getElem?_append_left (by rw [toBits_length]; omega), ← List.getD_eq_getElem?_getD]
      simpa using bit_byte b r hr
    | succ q =>
      rw [List.getD_eq_getElem?_getD, List.getElem?_append_right (by rw [toBits_length]; omega), toBits_length, ← List.getD_eq_getElem?_getD]
      rw [show 8 * (q + 1) + r - 8 = 8 * q + r by omega]
      exact ih q r (by simpa using hq) hr
theorem bit_out (l : List UInt8) (k : Nat) (h : l.length ≤ k / 8) : (bitsOf l).getD k false = false := by
  rw [List.getD_eq_getElem?_getD, List.getElem?_eq_none (by rw [bitsOf_length]; omega)]
  rfl
theorem bit_f (l : List UInt8) (k : Nat) (hk : k ≤ 1125899906842624) : stillroomref01_bit.f (ints l) (k : Int) = some (if (bitsOf l).getD k false then 1 else 0) := by
  have e1 : wrap64 (Int.tdiv (k : Int) 8) = ((k / 8 : Nat) : Int) := by
    rw [Int.tdiv_eq_ediv_of_nonneg (by omega)]; unfold wrap64; omega
  have e2 : Int.tmod (k : Int) 8 = ((k % 8 : Nat) : Int) := by rw [Int.tmod_eq_emod_of_nonneg (by omega)]; omega
  have e3 : IntKind.u64.wrap (wrap64 (7 - ((k % 8 : Nat) : Int))) = ((7 - k % 8 : Nat) : Int) := by
    have : IntKind.u64.wrap (wrap64 (7 - ((k % 8 : Nat) : Int))) = wrap64 (7 - ((k % 8 : Nat) : Int)) % 18446744073709551616 := by simp [IntKind.wrap, IntKind.bits, IntKind.signed]
    rw [this]; unfold wrap64; omega
  unfold stillroomref01_bit.f
  rw [e1, e2, e3, ints_length]
  by_cases h : (((k / 8 : Nat) : Int)) ≥ (l.length : Int)
  · rw [if_pos h, bit_out l k (by omega)]; rfl
  · have hq : k / 8 < l.length := by omega
    rw [if_neg h, if_pos (by omega), if_pos (by omega), if_pos (by omega), rd_ints l (k / 8) hq]
    have e4 : shr .u8 (l[k / 8].toNat : Int) ((7 - k % 8 : Nat) : Int) = ((l[k / 8].toNat / 2 ^ (7 - k % 8) : Nat) : Int) := by
      unfold shr
      rw [Int.toNat_natCast, Nat.min_eq_left (by show 7 - k % 8 ≤ 8; omega)]
      simp
    rw [e4]
    have hb := bit_at l (k / 8) (k % 8) hq (Nat.mod_lt _ (by decide))
    rw [show 8 * (k / 8) + k % 8 = k by omega] at hb
    rw [hb]
    have hlt : l[k / 8].toNat / 2 ^ (7 - k % 8) < 256 := Nat.lt_of_le_of_lt (Nat.div_le_self _ _) (UInt8.toNat_lt _)
    generalize l[k / 8].toNat / 2 ^ (7 - k % 8) = x at *
    have e5 : wrap64 (x : Int) = (x : Int) := by unfold wrap64; omega
    rw [e5, Int.tmod_eq_emod_of_nonneg (by omega)]
    rcases Nat.mod_two_eq_zero_or_one x with hx | hx
    · rw [hx]; simp; omega
    · rw [hx]; simp; omega

theorem bt_sgn : ∀ v : Fin 32, bt (⟨#[48, 49, 50, 51, 52, 53, 54, 55, 56, 57, 97, 98, 99, 100, 102, 103, 104, 105, 106, 107, 108, 109, 110, 112, 113, 114, 115, 118, 119, 120, 121, 122]⟩ : ByteArray) ((v.val : Nat) : Int) = ((sgn v.val).toNat : Int) := by decide
def b01 (b : Bool) : Int := if b then 1 else 0
/-- One group of five: from the head of the inner loop to the head of the outer one. -/
theorem group (l acc : List UInt8) (pos k : Nat) (hp : pos ≤ 1125899906842000) (hacc : acc.length < 140737488355328) :
    stillroomref01_Encode.l1 (k + 6) (ints l) (ints acc) (pos : Int) 0 0 =
      stillroomref01_Encode.l0 k (ints l) (ints (acc ++ [sgn (ofBits 0 [(bitsOf l).getD pos false, (bitsOf l).getD (pos + 1) false, (bitsOf l).getD (pos + 2) false, (bitsOf l).getD (pos + 3) false, (bitsOf l).getD (pos + 4) false])])) ((pos + 5 : Nat) : Int) := by
  have step : ∀ (x j k : Nat), j < 5 → x < 32 → stillroomref01_Encode.l1 (k + 1) (ints l) (ints acc) (pos : Int) (x : Int) (j : Int) = stillroomref01_Encode.l1 k (ints l) (ints acc) (pos : Int) ((2 * x + ((bitsOf l).getD (pos + j) false).toNat : Nat) : Int) ((j + 1 : Nat) : Int) := by
    intro x j k hj hx
    simp only [stillroomref01_Encode.l1]
    have e1 : wrap64 ((pos : Int) + (j : Int)) = ((pos + j : Nat) : Int) := by unfold wrap64; omega
    have e2 : wrap64 ((j : Int) + 1) = ((j + 1 : Nat) : Int) := by unfold wrap64; omega
    rw [if_pos (by omega), e1, e2, bit_f l (pos + j) (by omega), Option.bind_some]
    congr 1
    cases (bitsOf l).getD (pos + j) false
    · simp only [Bool.toNat_false, if_neg (by decide : ¬ (false = true))]; unfold wrap64; omega
    · simp only [Bool.toNat_true, if_true]; unfold wrap64; omega
  have hb : ∀ b : Bool, b.toNat ≤ 1 := by intro b; cases b <;> decide
  have h0 := hb ((bitsOf l).getD (pos + 0) false)
  have h1 := hb ((bitsOf l).getD (pos + 1) false)
  have h2 := hb ((bitsOf l).getD (pos + 2) false)
  have h3 := hb ((bitsOf l).getD (pos + 3) false)
  have h4 := hb ((bitsOf l).getD (pos + 4) false)
  have s0 := step 0 0 (k + 5) (by omega) (by omega)
  have s1 := step (2 * 0 + ((bitsOf l).getD (pos + 0) false).toNat) 1 (k + 4) (by omega) (by omega)
  have s2 := step (2 * (2 * 0 + ((bitsOf l).getD (pos + 0) false).toNat) + ((bitsOf l).getD (pos + 1) false).toNat) 2 (k + 3) (by omega) (by omega)
  have s3 := step (2 * (2 * (2 * 0 + ((bitsOf l).getD (pos + 0) false).toNat) + ((bitsOf l).getD (pos + 1) false).toNat) + ((bitsOf l).getD (pos + 2) false).toNat) 3 (k + 2) (by omega) (by omega)
  have s4 := step (2 * (2 * (2 * (2 * 0 + ((bitsOf l).getD (pos + 0) false).toNat) + ((bitsOf l).getD (pos + 1) false).toNat) + ((bitsOf l).getD (pos + 2) false).toNat) + ((bitsOf l).getD (pos + 3) false).toNat) 4 (k + 1) (by omega) (by omega)
  have hv : ofBits 0 [(bitsOf l).getD pos false, (bitsOf l).getD (pos + 1) false, (bitsOf l).getD (pos + 2) false, (bitsOf l).getD (pos + 3) false, (bitsOf l).getD (pos + 4) false] = 2 * (2 * (2 * (2 * (2 * 0 + ((bitsOf l).getD (pos + 0) false).toNat) + ((bitsOf l).getD (pos + 1) false).toNat) + ((bitsOf l).getD (pos + 2) false).toNat) + ((bitsOf l).getD (pos + 3) false).toNat) + ((bitsOf l).getD (pos + 4) false).toNat := rfl
  have hlt : ofBits 0 [(bitsOf l).getD pos false, (bitsOf l).getD (pos + 1) false, (bitsOf l).getD (pos + 2) false, (bitsOf l).getD (pos + 3) false, (bitsOf l).getD (pos + 4) false] < 32 := ofBits5_lt _ rfl
  refine s0.trans (s1.trans (s2.trans (s3.trans (s4.trans ?_))))
  rw [← hv]
  generalize ofBits 0 [(bitsOf l).getD pos false, (bitsOf l).getD (pos + 1) false, (bitsOf l).getD (pos + 2) false, (bitsOf l).getD (pos + 3) false, (bitsOf l).getD (pos + 4) false] = v at *
  have hbt := bt_sgn ⟨v, hlt⟩
  simp only [stillroomref01_Encode.l1]
  have e5 : wrap64 ((pos : Int) + 5) = ((pos + 5 : Nat) : Int) := by unfold wrap64; omega
  rw [if_neg (by omega), if_pos (by omega), if_pos (by omega), if_pos (by rw [ints_length]; exact hacc), e5, ints_append]
  show stillroomref01_Encode.l0 k (ints l) (ints acc ++ [bt _ (v : Int)]) _ = _
  rw [hbt]
  rfl
theorem encode_l0 (l : List UInt8) (hl : l.length ≤ 70368744177664) : ∀ (d pos k : Nat) (acc : List UInt8), 8 * l.length ≤ pos + 5 * d → 7 * d + 1 ≤ k → pos ≤ 8 * l.length + 5 → acc ++ encB ((bitsOf l).drop pos) = enc l → stillroomref01_Encode.l0 k (ints l) (ints acc) (pos : Int) = some ⟨(enc l).toArray⟩ := by
  intro d
  induction d with
  | zero =>
    intro pos k acc h1 h2 h3 h4
    obtain ⟨k, rfl⟩ : ∃ m, k = m + 1 := ⟨k - 1, by omega⟩
    simp only [stillroomref01_Encode.l0]
    have e : wrap64 (8 * ((ints l).length : Int)) = ((8 * l.length : Nat) : Int) := by rw [ints_length]; unfold wrap64; omega
    rw [List.drop_eq_nil_of_le (by rw [bitsOf_length]; omega)] at h4
    have h5 : acc = enc l := by simpa [encB] using h4
    rw [e, if_neg (by omega), str_ints, h5]
  | succ d ih =>
    intro pos k acc h1 h2 h3 h4
    obtain ⟨k, rfl⟩ : ∃ m, k = m + 7 := ⟨k - 7, by omega⟩
    have e : wrap64 (8 * ((ints l).length : Int)) = ((8 * l.length : Nat) : Int) := by rw [ints_length]; unfold wrap64; omega
    by_cases hp : pos < 8 * l.length
    · have hl1 := congrArg List.length h4
      rw [List.length_append, enc_length] at hl1
      have hne : (bitsOf l).drop pos ≠ [] := by
        intro h
        have := congrArg List.length h
        rw [List.length_drop, bitsOf_length] at this
        simp at this
        omega
      rw [encB_step _ hne, List.drop_drop] at h4
      have hg : ∀ i, ((bitsOf l).drop pos).getD i false = (bitsOf l).getD (pos + i) false := by
        intro i
        rw [List.getD_eq_getElem?_getD, List.getElem?_drop, ← List.getD_eq_getElem?_getD]
      rw [hg 0, hg 1, hg 2, hg 3, hg 4] at h4
      simp only [stillroomref01_Encode.l0]
      rw [e, if_pos (by omega), group l acc pos k (by omega) (by omega)]
      exact ih (pos + 5) k _ (by omega) (by omega) (by omega) (by rw [List.append_assoc]; exact h4)
    · rw [List.drop_eq_nil_of_le (by rw [bitsOf_length]; omega)] at h4
      have h5 : acc = enc l := by simpa [encB] using h4
      simp only [stillroomref01_Encode.l0]
      rw [e, if_neg (by omega), str_ints, h5]
theorem encode_f (l : List UInt8) (hl : l.length ≤ 70368744177664) (k : Nat) (hk : 14 * l.length + 8 ≤ k) : stillroomref01_Encode.f k (ints l) = some ⟨(enc l).toArray⟩ := by
  unfold stillroomref01_Encode.f
  exact encode_l0 l hl ((8 * l.length + 4) / 5) 0 k [] (by omega) (by omega) (by omega) rfl
end Go.Proofs.YtmaknbcfnigbmaaDoor.Ref01

namespace Go.Proofs.YtmaknbcfnigbmaaDoor.Ref01
set_option linter.unusedSimpArgs false
open Go.RowKit Go.Proofs.YtmaknbcfnigbmaaDoor.Sig Go.Proofs.YtmaknbcfnigbmaaDoor.PBitsSigns Go.Proofs.YtmaknbcfnigbmaaDoorW.PrintWords Go.Proofs.YtmaknbcfnigbmaaDoorW.PrintLast Go.Proofs.YtmaknbcfnigbmaaDoorW.PrintMore

def signOf (c : UInt8) : Int := if sv c < 32 then (sv c : Int) else -1
theorem sign_fin : ∀ c : Fin 256, stillroomref01_sign.f 40 ((c.val : Nat) : Int) = some (signOf (UInt8.ofNat c.val)) := by decide +kernel
theorem sign_f (c : UInt8) (k : Nat) (hk : 40 ≤ k) : stillroomref01_sign.f k (c.toNat : Int) = some (signOf c) := by
  have h := sign_fin ⟨c.toNat, c.toNat_lt⟩
  rw [UInt8.ofNat_toNat] at h
  obtain ⟨d, rfl⟩ : ∃ d, k = 40 + d := ⟨k - 40, by omega⟩
  clear hk
  induction d with
  | zero => exact h
  | succ d ih => exact stillroomref01_sign.mono _ _ _ ih

theorem add_bit_fin : ∀ (a : Fin 256) (e e' : Fin 8), a.val / 2 ^ e.val % 2 = 0 → a.val + 2 ^ e.val < 256 ∧ ((a.val + 2 ^ e.val) / 2 ^ e'.val % 2 == 1) = (if e' = e then true else (a.val / 2 ^ e'.val % 2 == 1)) := by decide +kernel
theorem set_bit (out : List UInt8) (q r : Nat) (hq : q < out.length) (hr : r < 8) (hz : (bitsOf out).getD (8 * q + r) false = false) :
    out[q].toNat + 2 ^ (7 - r) < 256 ∧ ∀ i, i < 8 * out.length → (bitsOf (out.set q (UInt8.ofNat (out[q].toNat + 2 ^ (7 - r))))).getD i false = if i = 8 * q + r then true else (bitsOf out).getD i false := by
  rw [bit_at out q r hq hr] at hz
  have h0 : out[q].toNat / 2 ^ (7 - r) % 2 = 0 := by
    have := beq_eq_false_iff_ne.mp hz
    omega
  have hfin := fun e' : Fin 8 => add_bit_fin ⟨out[q].toNat, UInt8.toNat_lt _⟩ ⟨7 - r, by omega⟩ e' h0
  have hlt : out[q].toNat + 2 ^ (7 - r) < 256 := (hfin 0).1
  refine ⟨hlt, fun i hi => ?_⟩
  have hi8 : i = 8 * (i / 8) + i % 8 := by omega
  have hq2 : i / 8 < out.length := by omega
  have hq3 : i / 8 < (out.set q (UInt8.ofNat (out[q].toNat + 2 ^ (7 - r)))).length := by rw [List.length_set]; exact hq2
  have hr2 : i % 8 < 8 := Nat.mod_lt _ (by decide)
  have hset := bit_at (out.set q (UInt8.ofNat (out[q].toNat + 2 ^ (7 - r)))) (i / 8) (i % 8) hq3 hr2
  have hold := bit_at out (i / 8) (i % 8) hq2 hr2
  rw [← hi8] at hset hold
  rw [hset, hold]
  by_cases he : i / 8 = q
  · have hv : ((out.set q (UInt8.ofNat (out[q].toNat + 2 ^ (7 - r))))[i / 8]'hq3).toNat = out[q].toNat + 2 ^ (7 - r) := by
      rw [List.getElem_set]
      rw [if_pos he.symm, UInt8.toNat_ofNat']
      exact Nat.mod_eq_of_lt hlt
    have ho : (out[i / 8]'hq2) = out[q] := by
      congr 1
    rw [hv, ho]
    have h2 := (hfin ⟨7 - i % 8, by omega⟩).2
    simp only at h2
    rw [h2]
    by_cases hrr : i % 8 = r
    · rw [if_pos (by congr 1; omega), if_pos (by omega)]
    · rw [if_neg (by intro h; injection h with h; omega), if_neg (by omega)]
  · have hv : ((out.set q (UInt8.ofNat (out[q].toNat + 2 ^ (7 - r))))[i / 8]'hq3) = out[i / 8] := by
      rw [List.getElem_set, if_neg (fun h => he h.symm)]
    rw [hv, if_neg (by omega)]

/-- The bytes laid so far: the first p bits of the signs', and none behind them. -/
def OutOk (out : List UInt8) (D : List Bool) (p : Nat) : Prop := ∀ i, i < 8 * out.length → (bitsOf out).getD i false = (decide (i < p) && D.getD i false)

theorem five_bit : ∀ (v : Fin 32) (j : Fin 5), (toBits 5 v.val).getD j.val false = (v.val / 2 ^ (4 - j.val) % 2 == 1) := by decide
/-- One sign: its five bits. -/
theorem sign_bits (s : ByteArray) (D : List Bool) (i v k : Nat) (hi : i < 1125899906842624) (hv : v < 32) (hD : ∀ j, j < 5 → D.getD (5 * i + j) false = (toBits 5 v).getD j false) :
    ∀ (d j : Nat) (out : List UInt8), j + d = 5 → OutOk out D (5 * i + j) →
      ∃ out', out'.length = out.length ∧ OutOk out' D (5 * i + 5) ∧ stillroomref01_Decode.l1 (k + d + 1) s (ints out) (i : Int) (v : Int) (j : Int) = stillroomref01_Decode.l0 k s (ints out') ((i + 1 : Nat) : Int) := by
  intro d
  induction d with
  | zero =>
    intro j out hj hO
    refine ⟨out, rfl, by rw [show 5 * i + 5 = 5 * i + j by omega]; exact hO, ?_⟩
    simp only [stillroomref01_Decode.l1]
    have e : wrap64 ((i : Int) + 1) = ((i + 1 : Nat) : Int) := by unfold wrap64; omega
    rw [if_neg (by omega), e]
  | succ d ih =>
    intro j out hj hO
    have hj5 : j < 5 := by omega
    have e1 : wrap64 (wrap64 (5 * (i : Int)) + (j : Int)) = ((5 * i + j : Nat) : Int) := by unfold wrap64; omega
    have e2 : wrap64 (Int.tdiv ((5 * i + j : Nat) : Int) 8) = (((5 * i + j) / 8 : Nat) : Int) := by
      rw [Int.tdiv_eq_ediv_of_nonneg (by omega)]; unfold wrap64; omega
    have e3 : wrap64 ((j : Int) + 1) = ((j + 1 : Nat) : Int) := by unfold wrap64; omega
    have uw : ∀ x : Int, IntKind.u64.wrap x = x % 18446744073709551616 := by intro x; simp [IntKind.wrap, IntKind.bits, IntKind.signed]
    have e4 : IntKind.u64.wrap (wrap64 (4 - (j : Int))) = ((4 - j : Nat) : Int) := by rw [uw]; unfold wrap64; omega
    have e5 : Int.tmod ((5 * i + j : Nat) : Int) 8 = (((5 * i + j) % 8 : Nat) : Int) := by rw [Int.tmod_eq_emod_of_nonneg (by omega)]; omega
    have e6 : IntKind.u64.wrap (wrap64 (7 - (((5 * i + j) % 8 : Nat) : Int))) = ((7 - (5 * i + j) % 8 : Nat) : Int) := by rw [uw]; unfold wrap64; omega
    have e7 : Int.tmod (shr .i64 (v : Int) ((4 - j : Nat) : Int)) 2 = ((v / 2 ^ (4 - j) % 2 : Nat) : Int) := by
      unfold shr
      rw [Int.toNat_natCast, Nat.min_eq_left (by show 4 - j ≤ 64; omega)]
      have : (v : Int) / 2 ^ (4 - j) = ((v / 2 ^ (4 - j) : Nat) : Int) := by simp
      rw [this, Int.tmod_eq_emod_of_nonneg (Int.natCast_nonneg _)]
      generalize v / 2 ^ (4 - j) = q
      omega
    have hDj := hD j hj5
    have hfb := five_bit ⟨v, hv⟩ ⟨j, hj5⟩
    simp only at hfb
    rw [hfb] at hDj
    rw [show k + (d + 1) + 1 = (k + d + 1) + 1 by omega]
    generalize hK : k + d + 1 = K at ih ⊢
    simp only [stillroomref01_Decode.l1]
    rw [if_pos (by omega), e1, e2, e3, e4, e5, e6, e7, ints_length]
    have keep : OutOk out D (5 * i + j + 1) → ∃ out', out'.length = out.length ∧ OutOk out' D (5 * i + 5) ∧ stillroomref01_Decode.l1 K s (ints out) (i : Int) (v : Int) ((j + 1 : Nat) : Int) = stillroomref01_Decode.l0 k s (ints out') ((i + 1 : Nat) : Int) :=
      fun h => ih (j + 1) out (by omega) h
    by_cases hin : (5 * i + j) / 8 < out.length
    · rw [if_pos (by omega), if_pos (by omega)]
      by_cases hbit : v / 2 ^ (4 - j) % 2 = 1
      · have hz : (bitsOf out).getD (8 * ((5 * i + j) / 8) + (5 * i + j) % 8) false = false := by
          rw [show 8 * ((5 * i + j) / 8) + (5 * i + j) % 8 = 5 * i + j by omega, hO (5 * i + j) (by omega)]
          simp
        obtain ⟨hlt, hset⟩ := set_bit out ((5 * i + j) / 8) ((5 * i + j) % 8) hin (Nat.mod_lt _ (by decide)) hz
        rw [show 8 * ((5 * i + j) / 8) + (5 * i + j) % 8 = 5 * i + j by omega] at hset
        have hO2 : OutOk (out.set ((5 * i + j) / 8) (UInt8.ofNat (out[(5 * i + j) / 8].toNat + 2 ^ (7 - (5 * i + j) % 8)))) D (5 * i + (j + 1)) := by
          intro x hx
          rw [List.length_set] at hx
          rw [hset x hx]
          by_cases hxe : x = 5 * i + j
          · rw [if_pos hxe, hxe, hDj, hbit]
            simp
          · rw [if_neg hxe, hO x hx]
            congr 1
            rw [decide_eq_decide]
            omega
        obtain ⟨out', hl', ho', hr'⟩ := ih (j + 1) _ (by omega) hO2
        rw [List.length_set] at hl'
        refine ⟨out', hl', ho', ?_⟩
        rw [← hr']
        rw [if_pos (by rw [hbit]; rfl), if_pos (by omega), if_pos (by omega), Int.toNat_natCast, rd_ints out _ hin]
        congr 1
        have e8 : shl .u8 1 ((7 - (5 * i + j) % 8 : Nat) : Int) = ((2 ^ (7 - (5 * i + j) % 8) : Nat) : Int) := by
          unfold shl
          rw [Int.toNat_natCast, Nat.min_eq_left (by show 7 - (5 * i + j) % 8 ≤ 8; omega), IntKind.wrap_u8, Int.one_mul]
          have h128 : 2 ^ (7 - (5 * i + j) % 8) ≤ 2 ^ 7 := Nat.pow_le_pow_right (by decide) (by omega)
          have e9 : (2 : Int) ^ (7 - (5 * i + j) % 8) = ((2 ^ (7 - (5 * i + j) % 8) : Nat) : Int) := by simp
          rw [e9]
          clear hlt hset hO2 hbit hDj e7
          generalize 2 ^ (7 - (5 * i + j) % 8) = y at h128 ⊢
          omega
        rw [e8]
        unfold ints
        rw [List.map_set, UInt8.toNat_ofNat', Nat.mod_eq_of_lt hlt]
        congr 1
        have hlt' := hlt
        clear hlt hset hO2 hbit hDj e7 e8
        generalize 2 ^ (7 - (5 * i + j) % 8) = y at hlt' ⊢
        omega
      · rw [if_neg (by clear hDj e7; generalize v / 2 ^ (4 - j) % 2 = y at hbit ⊢; omega)]
        apply keep
        intro x hx
        rw [hO x hx]
        by_cases hxe : x = 5 * i + j
        · rw [hxe, hDj]
          have : (v / 2 ^ (4 - j) % 2 == 1) = false := beq_eq_false_iff_ne.mpr hbit
          rw [this]; simp
        · congr 1
          rw [decide_eq_decide]
          omega
    · rw [if_neg (by omega)]
      apply keep
      intro x hx
      rw [hO x hx]
      congr 1
      rw [decide_eq_decide]
      omega
end Go.Proofs.YtmaknbcfnigbmaaDoor.Ref01

namespace Go.Proofs.YtmaknbcfnigbmaaDoor.Ref01
set_option linter.unusedSimpArgs false
open Go.RowKit Go.Proofs.YtmaknbcfnigbmaaDoor.Sig Go.Proofs.YtmaknbcfnigbmaaDoor.PBitsSigns Go.Proofs.YtmaknbcfnigbmaaDoorW.PrintWords Go.Proofs.YtmaknbcfnigbmaaDoorW.PrintLast Go.Proofs.YtmaknbcfnigbmaaDoorW.PrintMore

/-- What Decode answers. -/
def DecIs (sl : List UInt8) (r : List Int × Int) : Prop := (∃ acc, enc acc = sl ∧ r = (ints acc, 0)) ∨ ((∀ acc, enc acc ≠ sl) ∧ r = (([] : List Int), 10))

theorem bt_list (sl : List UInt8) (i : Nat) (h : i < sl.length) : bt (⟨sl.toArray⟩ : ByteArray) (i : Int) = (sl[i].toNat : Int) := by
  have h2 : ((i : Int)).toNat < (⟨sl.toArray⟩ : ByteArray).size := by rw [Int.toNat_natCast]; exact h
  unfold bt
  rw [dif_pos h2]
  show (((sl.toArray)[((i : Int)).toNat]'h2).toNat : Int) = _
  simp
theorem getD_five (sl : List UInt8) (i : Nat) (h : i < sl.length) (j : Nat) (hj : j < 5) : (decBits sl).getD (5 * i + j) false = (toBits 5 (sv sl[i])).getD j false := by
  induction sl generalizing i with
  | nil => simp at h
  | cons c sl ih =>
    rw [decBits_cons]
    cases i with
    | zero =>
      rw [List.getD_eq_getElem?_getD, List.getElem?_append_left (by rw [toBits_length]; omega), ← List.getD_eq_getElem?_getD]
      simp
    | succ i =>
      rw [List.getD_eq_getElem?_getD, List.getElem?_append_right (by rw [toBits_length]; omega), toBits_length, ← List.getD_eq_getElem?_getD]
      rw [show 5 * (i + 1) + j - 5 = 5 * i + j by omega]
      exact ih i (by simpa using h)
theorem out_take (out : List UInt8) (D : List Bool) (p : Nat) (hp : 8 * out.length ≤ p) (hD : 8 * out.length ≤ D.length) (h : OutOk out D p) : bitsOf out = D.take (8 * out.length) := by
  apply List.ext_getElem
  · rw [bitsOf_length, List.length_take, Nat.min_eq_left hD]
  · intro i h1 h2
    rw [bitsOf_length] at h1
    have := h i h1
    rw [show decide (i < p) = true from by simpa using Nat.lt_of_lt_of_le h1 hp, Bool.true_and] at this
    rw [List.getElem_take]
    rw [List.getD_eq_getElem?_getD, List.getD_eq_getElem?_getD, List.getElem?_eq_getElem (by rw [bitsOf_length]; exact h1), List.getElem?_eq_getElem (by omega)] at this
    simpa using this
theorem sum_enc (acc sl : List UInt8) (h : enc acc = sl) : acc.length = sl.length * 5 / 8 := by
  have := congrArg List.length h
  rw [enc_length] at this
  omega
theorem decode_l0 (sl : List UInt8) (hs : sl.length ≤ 70368744177664) : ∀ (d i k : Nat) (out : List UInt8), i + d = sl.length → out.length = sl.length * 5 / 8 → OutOk out (decBits sl) (5 * i) → 7 * d + 14 * (sl.length * 5 / 8) + 49 ≤ k →
    ∃ r, stillroomref01_Decode.l0 k ⟨sl.toArray⟩ (ints out) (i : Int) = some r ∧ DecIs sl r := by
  intro d
  induction d with
  | zero =>
    intro i k out hi ho hO hk
    obtain ⟨k, rfl⟩ : ∃ m, k = m + 1 := ⟨k - 1, by omega⟩
    have hsz : ((⟨sl.toArray⟩ : ByteArray).size : Int) = (sl.length : Int) := rfl
    simp only [stillroomref01_Decode.l0]
    rw [hsz, if_neg (by omega), encode_f out (by omega) k (by omega), Option.bind_some]
    have hb := out_take out (decBits sl) (5 * i) (by omega) (by rw [decBits_length]; omega) hO
    have ht : (⟨(enc out).toArray⟩ : ByteArray).toList = enc out := ByteArray.toList_eq _
    have ht2 : (⟨sl.toArray⟩ : ByteArray).toList = sl := ByteArray.toList_eq _
    rw [ht, ht2]
    by_cases he : enc out = sl
    · rw [if_pos he]
      exact ⟨_, rfl, Or.inl ⟨out, he, rfl⟩⟩
    · rw [if_neg he]
      refine ⟨_, rfl, Or.inr ⟨fun acc ha => he ?_, rfl⟩⟩
      have hal := sum_enc acc sl ha
      have hbb := decBits_enc acc
      rw [ha] at hbb
      rw [hbb, ho, ← hal, ← bitsOf_length acc, List.take_left'] at hb
      · rw [bitsOf_inj out acc hb]; exact ha
      · rfl
  | succ d ih =>
    intro i k out hi ho hO hk
    obtain ⟨k, rfl⟩ : ∃ m, k = m + 7 := ⟨k - 7, by omega⟩
    have hsz : ((⟨sl.toArray⟩ : ByteArray).size : Int) = (sl.length : Int) := rfl
    have hil : i < sl.length := by omega
    rw [show k + 7 = (k + 6) + 1 by omega]
    generalize hK : k + 6 = K
    simp only [stillroomref01_Decode.l0]
    rw [hsz, if_pos (by omega), if_pos (by omega), bt_list sl i hil, sign_f _ K (by omega), Option.bind_some]
    unfold signOf
    by_cases hv : sv sl[i] < 32
    · rw [if_pos hv, if_neg (by omega)]
      obtain ⟨out', hl, hO', hr⟩ := sign_bits ⟨sl.toArray⟩ (decBits sl) i (sv sl[i]) k (by omega) hv (fun j hj => getD_five sl i hil j hj) 5 0 out rfl hO
      obtain ⟨r, h1, h2⟩ := ih (i + 1) k out' (by omega) (by omega) (by rw [show 5 * (i + 1) = 5 * i + 5 by omega]; exact hO') (by omega)
      refine ⟨r, ?_, h2⟩
      rw [← hK]
      exact hr.trans h1
    · rw [if_neg hv, if_pos (by decide)]
      refine ⟨_, rfl, Or.inr ⟨fun acc ha => hv ?_, rfl⟩⟩
      exact enc_valid acc _ (by rw [ha]; exact List.getElem_mem hil)
theorem decode_f (sl : List UInt8) (hs : sl.length ≤ 70368744177664) (k : Nat) (hk : 7 * sl.length + 14 * (sl.length * 5 / 8) + 49 ≤ k) :
    ∃ r, stillroomref01_Decode.f k ⟨sl.toArray⟩ = some r ∧ DecIs sl r := by
  have hsz : ((⟨sl.toArray⟩ : ByteArray).size : Int) = (sl.length : Int) := rfl
  have e : wrap64 (Int.tdiv (wrap64 ((sl.length : Int) * 5)) 8) = ((sl.length * 5 / 8 : Nat) : Int) := by
    have : wrap64 ((sl.length : Int) * 5) = ((sl.length * 5 : Nat) : Int) := by unfold wrap64; omega
    rw [this, Int.tdiv_eq_ediv_of_nonneg (by omega)]; unfold wrap64; omega
  unfold stillroomref01_Decode.f
  rw [hsz, e, if_pos (by omega), if_pos (by omega), Int.toNat_natCast]
  have h0 : (List.replicate (sl.length * 5 / 8) 0 : List Int) = ints (List.replicate (sl.length * 5 / 8) 0) := by simp [ints]
  rw [h0]
  refine decode_l0 sl hs sl.length 0 k _ (by omega) (by simp) ?_ hk
  intro i hi
  rw [List.length_replicate] at hi
  rw [show decide (i < 5 * 0) = false by simp, Bool.false_and]
  have := bit_at (List.replicate (sl.length * 5 / 8) 0) (i / 8) (i % 8) (by simp; omega) (Nat.mod_lt _ (by decide))
  rw [show 8 * (i / 8) + i % 8 = i by omega] at this
  rw [this]
  simp
end Go.Proofs.YtmaknbcfnigbmaaDoor.Ref01
