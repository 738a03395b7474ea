/- What the functions under BitsNumbers tell, as plain numbers: the code's and the reference's alike. -/
import Derived.Test.YtmaknbcfnigbmaaPBitsNumbersx1
import Derived.Test.YtmaknbcfnigbmaaPlainB
namespace Go.Proofs.Ytmaknbcfnigbmaa.Nums
open Go.RowKit Go.Proofs.Ytmaknbcfnigbmaa.PBitsNumbers Go.Proofs.YtmaknbcfnigbmaaW.PrintWords Go.Proofs.YtmaknbcfnigbmaaW.PrintLast Go.Proofs.YtmaknbcfnigbmaaW.PrintMore Go.Proofs.Ytmaknbcfnigbmaa.Plain

theorem set_rep (d : Nat) (x : Int) (l : List Int) : (List.replicate (d + 1) (0 : Int) ++ l).set d x = List.replicate d 0 ++ x :: l := by
  rw [List.replicate_succ', List.append_assoc, List.set_append_right _ _ (by simp)]
  simp

theorem bytes_l0 (v n : Nat) (hn : n ≤ 8) : ∀ (d i k : Nat), i + d = n → d < k → bits_Bytes.l0 k v n (List.replicate d 0 ++ be i v) n i = some (be n v, 0) := by
  intro d
  induction d with
  | zero =>
    intro i k h hk
    obtain ⟨k, rfl⟩ : ∃ m, k = m + 1 := ⟨k - 1, by omega⟩
    obtain rfl : i = n := by omega
    simp only [bits_Bytes.l0]
    rw [if_neg (by omega)]
    simp
  | succ d ih =>
    intro i k h hk
    obtain ⟨k, rfl⟩ : ∃ m, k = m + 1 := ⟨k - 1, by omega⟩
    simp only [bits_Bytes.l0]
    have e1 : wrap64 (8 * (i : Int)) = 8 * i := by unfold wrap64; omega
    have e2 : wrap64 (wrap64 ((n : Int) - 1) - i) = (d : Int) := by unfold wrap64; omega
    have e3 : wrap64 ((i : Int) + 1) = ((i + 1 : Nat) : Int) := by unfold wrap64; omega
    rw [e1, e2, e3, if_pos (by omega), if_pos (by omega), if_pos (by omega), if_pos (by simp [be_length]; omega), shr_byte v i (by omega), Int.toNat_natCast, set_rep]
    exact ih (i + 1) k (by omega) (by omega)
theorem bytes_f (v n k : Nat) (h1 : 1 ≤ n) (hn : n ≤ 8) (hk : 10 ≤ k) : bits_Bytes.f k v n = some (be n v, 0) := by
  obtain ⟨k, rfl⟩ : ∃ m, k = m + 1 := ⟨k - 1, by omega⟩
  unfold bits_Bytes.f
  rw [if_neg (by omega)]
  simp only [bits_Bytes.j0]
  rw [if_neg (by simp; omega), if_pos (by omega), Int.toNat_natCast, if_pos (by omega)]
  have := bytes_l0 v n hn n 0 k (by omega) (by omega)
  simpa [be] using this
theorem bytes_out (v n : Int) (k : Nat) (h : n < 1 ∨ 8 < n) : bits_Bytes.f (k + 1) v n = some ([], 2) := by
  unfold bits_Bytes.f
  by_cases h1 : n < 1
  · rw [if_pos h1]; simp only [bits_Bytes.j0]; rw [if_pos trivial]
  · rw [if_neg h1]; simp only [bits_Bytes.j0]; rw [if_pos (by simp; omega)]

theorem ref_l0 (v n : Nat) (hv : v < 18446744073709551616) (hn : n ≤ 8) : ∀ (d i k : Nat), i + d = n → d < k → stillroomref01_Bytes.l0 k ((v / 256 ^ i : Nat) : Int) (List.replicate d 0 ++ be i v) ((d : Int) - 1) = some (be n v, 0) := by
  intro d
  induction d with
  | zero =>
    intro i k h hk
    obtain ⟨k, rfl⟩ : ∃ m, k = m + 1 := ⟨k - 1, by omega⟩
    obtain rfl : i = n := by omega
    simp only [stillroomref01_Bytes.l0]
    rw [if_neg (by omega)]
    simp
  | succ d ih =>
    intro i k h hk
    obtain ⟨k, rfl⟩ : ∃ m, k = m + 1 := ⟨k - 1, by omega⟩
    simp only [stillroomref01_Bytes.l0]
    have hq : v / 256 ^ i ≤ v := Nat.div_le_self _ _
    have hd := div_pow v i
    have e1 : IntKind.u64.wrap (Int.tdiv ((v / 256 ^ i : Nat) : Int) 256) = ((v / 256 ^ (i + 1) : Nat) : Int) := by
      rw [Int.tdiv_eq_ediv_of_nonneg (Int.natCast_nonneg _), wrap_u64, ← hd]
      generalize v / 256 ^ i = q at *
      omega
    have e2 : Int.tmod ((v / 256 ^ i : Nat) : Int) 256 % 256 = ((v / 256 ^ i % 256 : Nat) : Int) := by
      rw [Int.tmod_eq_emod_of_nonneg (Int.natCast_nonneg _)]
      generalize v / 256 ^ i = q at *
      omega
    have e3 : wrap64 (((d + 1 : Nat) : Int) - 1 - 1) = (d : Int) - 1 := by unfold wrap64; omega
    have e4 : (((d + 1 : Nat) : Int) - 1).toNat = d := by omega
    rw [e1, e2, e3, e4, set_rep, if_pos (by omega), if_pos (by omega), if_pos (by simp [be_length]; omega)]
    exact ih (i + 1) k (by omega) (by omega)
theorem ref_f (v n k : Nat) (hv : v < 18446744073709551616) (h1 : 1 ≤ n) (hn : n ≤ 8) (hk : 10 ≤ k) : stillroomref01_Bytes.f k v n = some (be n v, 0) := by
  obtain ⟨k, rfl⟩ : ∃ m, k = m + 1 := ⟨k - 1, by omega⟩
  unfold stillroomref01_Bytes.f
  rw [if_neg (by omega)]
  simp only [stillroomref01_Bytes.j0]
  have e3 : wrap64 ((n : Int) - 1) = (n : Int) - 1 := by unfold wrap64; omega
  rw [if_neg (by simp; omega), if_pos (by omega), Int.toNat_natCast, if_pos (by omega), e3]
  have := ref_l0 v n hv hn n 0 k (by omega) (by omega)
  simpa [be] using this
theorem ref_out (v n : Int) (k : Nat) (h : n < 1 ∨ 8 < n) : stillroomref01_Bytes.f (k + 1) v n = some ([], 2) := by
  unfold stillroomref01_Bytes.f
  by_cases h1 : n < 1
  · rw [if_pos h1]; simp only [stillroomref01_Bytes.j0]; rw [if_pos trivial]
  · rw [if_neg h1]; simp only [stillroomref01_Bytes.j0]; rw [if_pos (by simp; omega)]
/-- The bytes: both tell the same. -/
theorem bytes_both (v : Nat) (hv : v < 18446744073709551616) (n : Int) : ∃ r1 r2, bits_Bytes.f 20 v n = some (r1, r2) ∧ stillroomref01_Bytes.f 20 v n = some (r1, r2) := by
  by_cases h : n < 1 ∨ 8 < n
  · exact ⟨[], 2, bytes_out v n 19 h, ref_out v n 19 h⟩
  · obtain ⟨m, rfl⟩ := Int.eq_ofNat_of_zero_le (show 0 ≤ n by omega)
    exact ⟨be m v, 0, bytes_f v m 20 (by omega) (by omega) (by omega), ref_f v m 20 hv (by omega) (by omega) (by omega)⟩

theorem narrow_in (a : Int) (n : Nat) (h0 : 1 ≤ n) (h : n ≤ 64) : bits_Narrow.f a n = some (nar n a, 0) := by
  have e : wrap64 (64 - (n : Int)) = 64 - n := by unfold wrap64; omega
  unfold bits_Narrow.f
  rw [e, if_neg (by omega), if_neg (by omega), if_pos (by omega), narrow_val a n h0 h]
theorem narrow_out (a n : Int) (h : n < 1 ∨ 64 < n) : bits_Narrow.f a n = some (0, 2) := by
  unfold bits_Narrow.f
  by_cases h1 : n < 1
  · rw [if_pos h1]
  · rw [if_neg h1, if_pos (by omega)]

theorem or_byte (a x : Int) (ha : 0 ≤ a) (ha1 : a < 72057594037927936) (hx : 0 ≤ x) (hx1 : x < 256) : bits .or .u64 (IntKind.u64.wrap (a * 256)) (IntKind.u64.wrap x) = a * 256 + x := by
  rw [wrap_u64, wrap_u64, Int.emod_eq_of_lt (by omega) (by omega), Int.emod_eq_of_lt (by omega) (by omega), u64_or _ _ (by omega) (by omega) (by omega) (by omega), nat_join 8 _ _ (by omega) (by omega)]
  omega
theorem number_l0 (xs : List Int) (hr : ∀ x ∈ xs, 0 ≤ x ∧ x < 256) (hl : xs.length ≤ 8) :
    ∀ (d i k : Nat) (a : Int), i + d = xs.length → d < k → 0 ≤ a → a < 256 ^ i → bits_Number.l0 k a xs (xs.length : Int) i = some (num a (xs.drop i), 0) := by
  intro d
  induction d with
  | zero =>
    intro i k a h hk h0 h1
    obtain ⟨k, rfl⟩ : ∃ m, k = m + 1 := ⟨k - 1, by omega⟩
    simp only [bits_Number.l0]
    rw [if_neg (by omega), List.drop_eq_nil_of_le (by omega)]
    rfl
  | succ d ih =>
    intro i k a h hk h0 h1
    obtain ⟨k, rfl⟩ : ∃ m, k = m + 1 := ⟨k - 1, by omega⟩
    have hi : i < xs.length := by omega
    have hx := hr xs[i] (List.getElem_mem hi)
    have hp : (256 : Int) ^ i ≤ 72057594037927936 := by
      have h1 : (256 : Nat) ^ i ≤ 256 ^ 7 := Nat.pow_le_pow_right (by decide) (by omega)
      have h2 : ((256 ^ i : Nat) : Int) ≤ ((256 ^ 7 : Nat) : Int) := by exact_mod_cast h1
      simpa using h2
    have e3 : wrap64 ((i : Int) + 1) = ((i + 1 : Nat) : Int) := by unfold wrap64; omega
    have er : rd xs (i : Int) = xs[i] := by simp [rd, hi]
    simp only [bits_Number.l0]
    rw [if_pos (by omega), if_pos (by omega), if_pos (by omega), e3, er, or_byte a _ h0 (by omega) hx.1 hx.2, ih (i + 1) k (a * 256 + xs[i]) (by omega) (by omega) (by omega) (by rw [Int.pow_succ]; omega), List.drop_eq_getElem_cons hi]
    rfl
theorem number_in (xs : List Int) (hr : ∀ x ∈ xs, 0 ≤ x ∧ x < 256) (h1 : 1 ≤ xs.length) (hl : xs.length ≤ 8) : bits_Number.f 20 xs = some (num 0 xs, 0) := by
  unfold bits_Number.f
  rw [if_neg (by omega)]
  simp only [bits_Number.j0]
  rw [if_neg (by simp; omega)]
  exact number_l0 xs hr hl xs.length 0 19 0 (by omega) (by omega) (by omega) (by decide)
theorem number_out (xs : List Int) (h : xs.length < 1 ∨ 8 < xs.length) : bits_Number.f 20 xs = some (0, 2) := by
  unfold bits_Number.f
  by_cases h1 : (xs.length : Int) < 1
  · rw [if_pos h1]; simp only [bits_Number.j0]; rw [if_pos trivial]
  · rw [if_neg h1]; simp only [bits_Number.j0]; rw [if_pos (by simp; omega)]

theorem rotate_f (x : Nat) (n : Int) (hx : x < 4294967296) : bits_Rotate.f x n = some ((ror x (n % 32).toNat : Nat) : Int) := by
  unfold bits_Rotate.f
  have hw : 0 ≤ IntKind.u64.wrap n ∧ IntKind.u64.wrap n < 18446744073709551616 := by rw [wrap_u64]; omega
  have e1 : bits .and .u64 (IntKind.u64.wrap n) 31 = (((n % 32).toNat : Nat) : Int) := by
    rw [and31 _ hw.1 hw.2, wrap_u64]; omega
  rw [e1]
  have hk : (n % 32).toNat < 32 := by omega
  generalize (n % 32).toNat = k at *
  have hw2 : 0 ≤ IntKind.u64.wrap (-(k : Int)) ∧ IntKind.u64.wrap (-(k : Int)) < 18446744073709551616 := by rw [wrap_u64]; omega
  have e2 : bits .and .u64 (IntKind.u64.wrap (-(k : Int))) 31 = (((32 - k) % 32 : Nat) : Int) := by
    rw [and31 _ hw2.1 hw2.2, wrap_u64]; omega
  rw [e2, if_pos (by omega), if_pos (by omega), ror_or x k hx hk]
theorem refRotate_f (x : Nat) (n : Int) (hx : x < 4294967296) (hn : (Lit.int .i64 n).wf = true) : stillroomref01_Rotate.f x n = some ((ror x (n % 32).toNat : Nat) : Int) := by
  have hb : -9223372036854775808 ≤ n ∧ n ≤ 9223372036854775807 := by
    simp [Lit.wf, IntKind.min, IntKind.max, IntKind.signed, IntKind.bits] at hn
    omega
  have e : Int.tmod (IntKind.u64.wrap (wrap64 (Int.tmod n 32 + 32))) 32 = (((n % 32).toNat : Nat) : Int) := by
    rw [wrap_u64]
    unfold wrap64
    rw [Int.tmod_eq_emod_of_nonneg (Int.emod_nonneg _ (by decide))]
    by_cases h0 : 0 ≤ n
    · rw [Int.tmod_eq_emod_of_nonneg h0]; omega
    · have : Int.tmod n 32 = -((-n) % 32) := by
        rw [← Int.tmod_eq_emod_of_nonneg (by omega), Int.neg_tmod]; omega
      rw [this]; omega
  unfold stillroomref01_Rotate.f
  rw [e]
  have hk : (n % 32).toNat < 32 := by omega
  generalize (n % 32).toNat = k at *
  by_cases h0 : k = 0
  · subst h0
    rw [if_pos (by decide), ror_zero]
  · have e2 : IntKind.u64.wrap (32 - (k : Int)) = ((32 - k : Nat) : Int) := by rw [wrap_u64]; omega
    rw [e2, if_neg (by omega), if_pos (by omega), if_pos (by omega), ror_sum x k hx (by omega)]
end Go.Proofs.Ytmaknbcfnigbmaa.Nums
