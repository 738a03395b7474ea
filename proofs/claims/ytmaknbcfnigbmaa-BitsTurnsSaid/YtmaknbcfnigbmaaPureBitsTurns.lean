/- BitsTurns: for every number and every count the law answers true: what is rotated there and back is as it was; a number in bytes is that number. No condition. -/
import Derived.Test.YtmaknbcfnigbmaaPBitsTurnsx1
import Derived.Test.YtmaknbcfnigbmaaPlainB
namespace Go.Proofs.Ytmaknbcfnigbmaa.Pure
open Go.RowKit Go.Proofs.Ytmaknbcfnigbmaa.PBitsTurns Go.Proofs.YtmaknbcfnigbmaaW.PrintWords Go.Proofs.YtmaknbcfnigbmaaW.PrintLast Go.Proofs.YtmaknbcfnigbmaaW.PrintMore Go.Proofs.Ytmaknbcfnigbmaa.Plain

theorem set_rep (d : Nat) (x : Int) (l : List Int) : (List.replicate (d + 1) (0 : Int) ++ l).set d x = List.replicate d 0 ++ x :: l := by
  rw [List.replicate_succ', List.append_assoc, List.set_append_right _ _ (by simp)]
  simp

theorem bytes_l0 (v n : Nat) (hn : n ≤ 8) : ∀ (d i k : Nat), i + d = n → d < k → bits_Bytes.l0 k v n (List.replicate d 0 ++ be i v) n i = some (be n v, 0) := by
  intro d
  induction d with
  | zero =>
    intro i k h hk
    obtain ⟨k, rfl⟩ : ∃ m, k = m + 1 := ⟨k - 1, by omega⟩
    obtain rfl : i = n := by omega
    simp only [bits_Bytes.l0]
    rw [if_neg (by omega)]
    simp
  | succ d ih =>
    intro i k h hk
    obtain ⟨k, rfl⟩ : ∃ m, k = m + 1 := ⟨k - 1, by omega⟩
    simp only [bits_Bytes.l0]
    have e1 : wrap64 (8 * (i : Int)) = 8 * i := by unfold wrap64; omega
    have e2 : wrap64 (wrap64 ((n : Int) - 1) - i) = (d : Int) := by unfold wrap64; omega
    have e3 : wrap64 ((i : Int) + 1) = ((i + 1 : Nat) : Int) := by unfold wrap64; omega
    rw [e1, e2, e3, if_pos (by omega), if_pos (by omega), if_pos (by omega), if_pos (by simp [be_length]; omega), shr_byte v i (by omega), Int.toNat_natCast, set_rep]
    exact ih (i + 1) k (by omega) (by omega)

theorem bytes_f (v n k : Nat) (h1 : 1 ≤ n) (hn : n ≤ 8) (hk : 10 ≤ k) : bits_Bytes.f k v n = some (be n v, 0) := by
  obtain ⟨k, rfl⟩ : ∃ m, k = m + 1 := ⟨k - 1, by omega⟩
  unfold bits_Bytes.f
  rw [if_neg (by omega)]
  simp only [bits_Bytes.j0]
  rw [if_neg (by simp; omega), if_pos (by omega), Int.toNat_natCast, if_pos (by omega)]
  have := bytes_l0 v n hn n 0 k (by omega) (by omega)
  simpa [be] using this

theorem or_byte (a x : Int) (ha : 0 ≤ a) (ha1 : a < 72057594037927936) (hx : 0 ≤ x) (hx1 : x < 256) : bits .or .u64 (IntKind.u64.wrap (a * 256)) (IntKind.u64.wrap x) = a * 256 + x := by
  rw [wrap_u64, wrap_u64, Int.emod_eq_of_lt (by omega) (by omega), Int.emod_eq_of_lt (by omega) (by omega), u64_or _ _ (by omega) (by omega) (by omega) (by omega), nat_join 8 _ _ (by omega) (by omega)]
  omega

theorem number_l0 (xs : List Int) (hr : ∀ x ∈ xs, 0 ≤ x ∧ x < 256) (hl : xs.length ≤ 8) :
    ∀ (d i k : Nat) (a : Int), i + d = xs.length → d < k → 0 ≤ a → a < 256 ^ i → bits_Number.l0 k a xs (xs.length : Int) i = some (num a (xs.drop i), 0) := by
  intro d
  induction d with
  | zero =>
    intro i k a h hk h0 h1
    obtain ⟨k, rfl⟩ : ∃ m, k = m + 1 := ⟨k - 1, by omega⟩
    simp only [bits_Number.l0]
    rw [if_neg (by omega), List.drop_eq_nil_of_le (by omega)]
    rfl
  | succ d ih =>
    intro i k a h hk h0 h1
    obtain ⟨k, rfl⟩ : ∃ m, k = m + 1 := ⟨k - 1, by omega⟩
    have hi : i < xs.length := by omega
    have hx := hr xs[i] (List.getElem_mem hi)
    have hp : (256 : Int) ^ i ≤ 72057594037927936 := by
      have h1 : (256 : Nat) ^ i ≤ 256 ^ 7 := Nat.pow_le_pow_right (by decide) (by omega)
      have h2 : ((256 ^ i : Nat) : Int) ≤ ((256 ^ 7 : Nat) : Int) := by exact_mod_cast h1
      simpa using h2
    have e3 : wrap64 ((i : Int) + 1) = ((i + 1 : Nat) : Int) := by unfold wrap64; omega
    have er : rd xs (i : Int) = xs[i] := by simp [rd, hi]
    simp only [bits_Number.l0]
    rw [if_pos (by omega), if_pos (by omega), if_pos (by omega), e3, er, or_byte a _ h0 (by omega) hx.1 hx.2, ih (i + 1) k (a * 256 + xs[i]) (by omega) (by omega) (by omega) (by rw [Int.pow_succ]; omega), List.drop_eq_getElem_cons hi]
    rfl

theorem number_f (xs : List Int) (hr : ∀ x ∈ xs, 0 ≤ x ∧ x < 256) (h1 : 1 ≤ xs.length) (hl : xs.length ≤ 8) (k : Nat) (hk : 10 ≤ k) : bits_Number.f k xs = some (num 0 xs, 0) := by
  obtain ⟨k, rfl⟩ : ∃ m, k = m + 1 := ⟨k - 1, by omega⟩
  unfold bits_Number.f
  rw [if_neg (by omega)]
  simp only [bits_Number.j0]
  rw [if_neg (by simp; omega)]
  exact number_l0 xs hr hl xs.length 0 k 0 (by omega) (by omega) (by omega) (by decide)

theorem rotate_f (x : Nat) (n : Int) (hx : x < 4294967296) : bits_Rotate.f x n = some ((ror x (n % 32).toNat : Nat) : Int) := by
  unfold bits_Rotate.f
  have hw : 0 ≤ IntKind.u64.wrap n ∧ IntKind.u64.wrap n < 18446744073709551616 := by rw [wrap_u64]; omega
  have e1 : bits .and .u64 (IntKind.u64.wrap n) 31 = (((n % 32).toNat : Nat) : Int) := by
    rw [and31 _ hw.1 hw.2, wrap_u64]; omega
  rw [e1]
  have hk : (n % 32).toNat < 32 := by omega
  generalize (n % 32).toNat = k at *
  have hw2 : 0 ≤ IntKind.u64.wrap (-(k : Int)) ∧ IntKind.u64.wrap (-(k : Int)) < 18446744073709551616 := by rw [wrap_u64]; omega
  have e2 : bits .and .u64 (IntKind.u64.wrap (-(k : Int))) 31 = (((32 - k) % 32 : Nat) : Int) := by
    rw [and31 _ hw2.1 hw2.2, wrap_u64]; omega
  rw [e2, if_pos (by omega), if_pos (by omega), ror_or x k hx hk]

theorem low_bytes (v n : Nat) (h1 : 1 ≤ n) (hn : n ≤ 8) : ((v % 256 ^ n : Nat) : Int) = shr .u64 (shl .u64 (v : Int) (IntKind.u64.wrap (wrap64 (64 - wrap64 (8 * (n : Int)))))) (IntKind.u64.wrap (wrap64 (64 - wrap64 (8 * (n : Int))))) := by
  have e : IntKind.u64.wrap (wrap64 (64 - wrap64 (8 * (n : Int)))) = ((64 - 8 * n : Nat) : Int) := by rw [wrap_u64]; unfold wrap64; omega
  rw [e]
  unfold shl shr
  rw [Int.toNat_natCast, show min (64 - 8 * n) IntKind.u64.bits = 64 - 8 * n from Nat.min_eq_left (by show 64 - 8 * n ≤ 64; omega), wrap_u64]
  have hM : 2 ^ (64 - 8 * n) * 256 ^ n = 18446744073709551616 := by
    rw [show (256 : Nat) ^ n = 2 ^ (8 * n) by rw [Nat.pow_mul], ← Nat.pow_add, Nat.sub_add_cancel (by omega)]
  have hp : 0 < 2 ^ (64 - 8 * n) := Nat.pow_pos (by decide)
  have h2 : v * 2 ^ (64 - 8 * n) % 18446744073709551616 / 2 ^ (64 - 8 * n) = v % 256 ^ n := by
    rw [← hM, Nat.mul_comm v, Nat.mul_mod_mul_left, Nat.mul_div_cancel_left _ hp]
  rw [← h2]
  simp

theorem turns_l0 (v : Nat) (a : Int) (x : Nat) (hx : x < 4294967296) : ∀ (d n k : Nat), 1 ≤ n → n + d = 9 → d + 20 ≤ k → stillroomlaw01_BitsTurns.l0 k v a x n = some true := by
  intro d
  induction d with
  | zero =>
    intro n k h1 h hk
    obtain ⟨k, rfl⟩ : ∃ m, k = m + 1 := ⟨k - 1, by omega⟩
    obtain rfl : n = 9 := by omega
    simp only [stillroomlaw01_BitsTurns.l0]
    rw [if_neg (by omega)]
    obtain ⟨b, hb, hb0, hb1⟩ : ∃ b : Int, bits .and .i64 a 65535 = b ∧ 0 ≤ b ∧ b < 65536 := by
      refine ⟨_, rfl, ?_⟩
      have h : (BitVec.ofInt 64 a &&& BitVec.ofInt 64 65535).toNat < 65536 := by
        rw [BitVec.toNat_and]
        exact Nat.lt_of_le_of_lt Nat.and_le_right (by decide)
      show 0 ≤ IntKind.i64.wrap ((BitVec.ofInt 64 a &&& BitVec.ofInt 64 65535).toNat : Int) ∧ IntKind.i64.wrap ((BitVec.ofInt 64 a &&& BitVec.ofInt 64 65535).toNat : Int) < 65536
      rw [IntKind.wrap_i64]
      omega
    have hw : wrap64 (-b) = -b := by unfold wrap64; omega
    have hk : (b % 32).toNat ≤ 32 := by omega
    have hr := ror_lt x _ hx hk
    have hb2 : ror (ror x (b % 32).toNat) (-b % 32).toNat = x := by
      by_cases h0 : b % 32 = 0
      · have e1 : (b % 32).toNat = 0 := by omega
        have e2 : (-b % 32).toNat = 0 := by omega
        rw [e1, e2, ror_zero, ror_zero]
      · have e2 : (-b % 32).toNat = 32 - (b % 32).toNat := by omega
        rw [e2, ror_back x _ hx hk]
    have h32 : bits_Rotate.f x 32 = some (x : Int) := by
      rw [rotate_f x 32 hx]
      show some ((ror x 0 : Nat) : Int) = _
      rw [ror_zero]
    rw [hb, hw, rotate_f x b hx, Option.bind_some, rotate_f _ (-b) hr, Option.bind_some, hb2, if_pos rfl, h32]
    simp
  | succ d ih =>
    intro n k h1 h hk
    obtain ⟨k, rfl⟩ : ∃ m, k = m + 1 := ⟨k - 1, by omega⟩
    simp only [stillroomlaw01_BitsTurns.l0]
    have e3 : wrap64 ((n : Int) + 1) = ((n + 1 : Nat) : Int) := by unfold wrap64; omega
    have hlow := low_bytes v n h1 (by omega)
    rw [if_pos (by omega), bytes_f v n k h1 (by omega) (by omega)]
    simp only [Option.bind_some]
    rw [number_f (be n v) (be_range n v) (by rw [be_length]; omega) (by rw [be_length]; omega) k (by omega)]
    simp only [Option.bind_some]
    have hw0 : 0 ≤ IntKind.u64.wrap (wrap64 (64 - wrap64 (8 * (n : Int)))) := by rw [wrap_u64]; exact Int.emod_nonneg _ (by decide)
    have hnum : num 0 (be n v) = shr .u64 (shl .u64 (v : Int) (IntKind.u64.wrap (wrap64 (64 - wrap64 (8 * (n : Int)))))) (IntKind.u64.wrap (wrap64 (64 - wrap64 (8 * (n : Int))))) := by
      rw [num_be, ← hlow, Int.zero_mul, Int.zero_add]
    clear hlow
    rw [if_pos trivial, if_pos trivial, be_length, if_pos rfl, if_pos hw0, if_pos hnum, e3]
    exact ih (n + 1) k (by omega) (by omega) (by omega)

theorem BitsTurns : stillroomlaw01_BitsTurns.Pure := by
  intro a0 a1 w0 w1
  have hb : 0 ≤ a0 ∧ a0 < 18446744073709551616 := by
    simp [Lit.wf, IntKind.min, IntKind.max, IntKind.signed, IntKind.bits] at w0
    omega
  obtain ⟨v, rfl⟩ := Int.eq_ofNat_of_zero_le hb.1
  refine ⟨30, ?_⟩
  unfold stillroomlaw01_BitsTurns.f
  have e : (v : Int) % 4294967296 = ((v % 4294967296 : Nat) : Int) := by omega
  rw [e]
  exact turns_l0 v a1 (v % 4294967296) (Nat.mod_lt _ (by decide)) 8 1 30 (by omega) (by omega) (by omega)
end Go.Proofs.Ytmaknbcfnigbmaa.Pure
