/- Plain facts: a number's bytes, the highest first; the number of bytes; rotations of 32 bits. No program in sight. -/
import Derived.Test.YtmaknbcfnigbmaaPlain
namespace Go.Proofs.Ytmaknbcfnigbmaa.Plain
open Go.RowKit Go.Proofs.YtmaknbcfnigbmaaW.PrintWords Go.Proofs.YtmaknbcfnigbmaaW.PrintLast Go.Proofs.YtmaknbcfnigbmaaW.PrintMore

/-- The lowest n bytes of a number, the highest first. -/
def be : Nat → Nat → List Int
  | 0, _ => []
  | n + 1, v => ((v / 256 ^ n % 256 : Nat) : Int) :: be n v
theorem be_length (n v : Nat) : (be n v).length = n := by
  induction n with
  | zero => rfl
  | succ n ih => simp [be, ih]
theorem be_range (n v : Nat) : ∀ x ∈ be n v, 0 ≤ x ∧ x < 256 := by
  induction n with
  | zero => intro x h; cases h
  | succ n ih =>
    intro x h
    simp only [be, List.mem_cons] at h
    rcases h with rfl | h
    · omega
    · exact ih x h
/-- The number of bytes. -/
def num (a : Int) (l : List Int) : Int := l.foldl (fun a x => a * 256 + x) a
theorem num_be (n : Nat) : ∀ (a : Int) (v : Nat), num a (be n v) = a * 256 ^ n + (v % 256 ^ n : Nat) := by
  induction n with
  | zero => intro a v; simp [num, be, Nat.mod_one]
  | succ n ih =>
    intro a v
    show num (a * 256 + ((v / 256 ^ n % 256 : Nat) : Int)) (be n v) = _
    rw [ih, Nat.pow_succ, Nat.mod_mul, Int.pow_succ, Int.natCast_add, Int.natCast_mul, Int.add_mul, Int.mul_assoc, Int.mul_comm (256 : Int) (256 ^ n), Int.natCast_pow]
    rw [Int.mul_comm ((v / 256 ^ n % 256 : Nat) : Int)]
    rw [show ((256 : Nat) : Int) = 256 from rfl]
    omega
theorem shr_byte (v i : Nat) (hi : i ≤ 8) : (shr .u64 (v : Int) (8 * (i : Int))) % 256 = ((v / 256 ^ i % 256 : Nat) : Int) := by
  unfold shr
  have e1 : (8 * (i : Int)).toNat = 8 * i := by omega
  rw [e1, Nat.min_eq_left (by show 8 * i ≤ 64; omega)]
  have e2 : (256 : Nat) ^ i = 2 ^ (8 * i) := by rw [Nat.pow_mul]
  rw [e2]
  simp
theorem be_get (n v : Nat) : ∀ j : Nat, j < n → (be n v).getD j 0 = ((v / 256 ^ (n - 1 - j) % 256 : Nat) : Int) := by
  induction n with
  | zero => intro j hj; omega
  | succ n ih =>
    intro j hj
    cases j with
    | zero => simp [be]
    | succ j =>
      have e : n + 1 - 1 - (j + 1) = n - 1 - j := by omega
      simp only [be, List.getD_cons_succ]
      rw [ih j (by omega), e]
theorem be_step (v : Nat) : ((v % 256 : Nat) : Int) = ((v / 256 ^ 0 % 256 : Nat) : Int) := by simp
theorem div_pow (v n : Nat) : v / 256 ^ n / 256 = v / 256 ^ (n + 1) := by rw [Nat.div_div_eq_div_mul, Nat.pow_succ]

/-- A rotation of 32 bits to the right. -/
def ror (x : Nat) (k : Nat) : Nat := x / 2 ^ k + x % 2 ^ k * 2 ^ (32 - k)
theorem ror_zero (x : Nat) : ror x 0 = x := by simp [ror, Nat.mod_one]
theorem ror_lt (x k : Nat) (hx : x < 4294967296) (hk : k ≤ 32) : ror x k < 4294967296 := by
  unfold ror
  have hM : 2 ^ k * 2 ^ (32 - k) = 4294967296 := by rw [← Nat.pow_add, Nat.add_sub_of_le hk]
  have h1 : x / 2 ^ k < 2 ^ (32 - k) := Nat.div_lt_of_lt_mul (by rw [hM]; exact hx)
  have h2 : x % 2 ^ k < 2 ^ k := Nat.mod_lt _ (Nat.pow_pos (by decide))
  generalize hP : 2 ^ k = P at *
  generalize hQ : 2 ^ (32 - k) = Q at *
  have h3 : (x % P + 1) * Q ≤ P * Q := Nat.mul_le_mul_right _ h2
  rw [Nat.add_mul] at h3
  omega
theorem ror_back (x k : Nat) (hx : x < 4294967296) (hk : k ≤ 32) : ror (ror x k) (32 - k) = x := by
  have hM : 2 ^ k * 2 ^ (32 - k) = 4294967296 := by rw [← Nat.pow_add, Nat.add_sub_of_le hk]
  have h1 : x / 2 ^ k < 2 ^ (32 - k) := Nat.div_lt_of_lt_mul (by rw [hM]; exact hx)
  have e : 32 - (32 - k) = k := by omega
  unfold ror
  rw [e]
  have hp : 0 < 2 ^ (32 - k) := Nat.pow_pos (by decide)
  rw [Nat.add_mul_mod_self_right, Nat.mod_eq_of_lt h1, Nat.add_mul_div_right _ _ hp, Nat.div_eq_of_lt h1, Nat.zero_add, Nat.mul_comm]
  exact Nat.mod_add_div x (2 ^ k)
/-- What lies apart may be laid over, or added. -/
theorem or_apart (x y i : Nat) (hx : x < 2 ^ i) : x ||| y * 2 ^ i = x + y * 2 ^ i := by
  rw [Nat.or_comm, Nat.mul_comm, ← Nat.two_pow_add_eq_or_of_lt hx, Nat.add_comm]
theorem shl_u32 (x k : Nat) (hk : k ≤ 32) : shl .u32 (x : Int) (k : Int) = ((x * 2 ^ k % 4294967296 : Nat) : Int) := by
  unfold shl
  rw [Int.toNat_natCast, Nat.min_eq_left (by show k ≤ 32; omega), IntKind.wrap_u32]
  simp
theorem shr_u32 (x k : Nat) (hk : k ≤ 32) : shr .u32 (x : Int) (k : Int) = ((x / 2 ^ k : Nat) : Int) := by
  unfold shr
  rw [Int.toNat_natCast, Nat.min_eq_left (by show k ≤ 32; omega)]
  simp
theorem shl_low (x k : Nat) (hk : k ≤ 32) : x * 2 ^ (32 - k) % 4294967296 = x % 2 ^ k * 2 ^ (32 - k) := by
  have hM : 2 ^ k * 2 ^ (32 - k) = 4294967296 := by rw [← Nat.pow_add, Nat.add_sub_of_le hk]
  rw [← hM, Nat.mul_mod_mul_right]
/-- The code's own rotation: the count's lowest five bits. -/
theorem ror_or (x k : Nat) (hx : x < 4294967296) (hk : k < 32) : bits .or .u32 (shr .u32 (x : Int) (k : Int)) (shl .u32 (x : Int) (((32 - k) % 32 : Nat) : Int)) = (ror x k : Nat) := by
  have hd : x / 2 ^ k < 4294967296 := Nat.lt_of_le_of_lt (Nat.div_le_self _ _) hx
  rw [shr_u32 x k (by omega), shl_u32 x _ (by omega), u32_or_nat _ _ hd (Nat.mod_lt _ (by decide))]
  congr 1
  by_cases h0 : k = 0
  · subst h0
    rw [ror_zero]
    simp [Nat.mod_eq_of_lt hx]
  · rw [Nat.mod_eq_of_lt (by omega : 32 - k < 32), shl_low x k (by omega)]
    have hM : 2 ^ k * 2 ^ (32 - k) = 4294967296 := by rw [← Nat.pow_add, Nat.add_sub_of_le (by omega)]
    exact or_apart _ _ _ (Nat.div_lt_of_lt_mul (by rw [hM]; exact hx))
/-- The reference's rotation: a sum. -/
theorem ror_sum (x k : Nat) (hx : x < 4294967296) (hk : k ≤ 32) : ((shr .u32 (x : Int) (k : Int)) + (shl .u32 (x : Int) ((32 - k : Nat) : Int))) % 4294967296 = (ror x k : Nat) := by
  rw [shr_u32 x k (by omega), shl_u32 x _ (by omega), shl_low x k hk]
  have := ror_lt x k hx hk
  unfold ror at *
  rw [← Int.natCast_add]
  generalize x / 2 ^ k + x % 2 ^ k * 2 ^ (32 - k) = r at *
  omega
theorem and31 (a : Int) (h0 : 0 ≤ a) (h1 : a < 18446744073709551616) : bits .and .u64 a 31 = a % 32 := by
  rw [u64_and a 31 h0 h1 (by decide) (by decide)]
  have : a.toNat &&& (31 : Int).toNat = a.toNat % 32 := Nat.and_two_pow_sub_one_eq_mod _ 5
  rw [this]
  omega
/-! The reference's narrowing: the lowest n bits, and 2^n less where the highest of them is set. -/
theorem nar_low (n : Nat) (h0 : 1 ≤ n) (a : Int) (h : a % 2 ^ n < 2 ^ (n - 1)) : nar n a = a % 2 ^ n := by
  unfold nar
  have h1 := Int.emod_nonneg a (Int.ne_of_gt (pow_pos' n))
  have h3 := pow_half n h0
  rw [← Int.emod_add_emod, Int.emod_eq_of_lt (by have := pow_pos' (n - 1); omega) (by omega)]
  omega
theorem nar_high (n : Nat) (h0 : 1 ≤ n) (a : Int) (h : ¬ a % 2 ^ n < 2 ^ (n - 1)) : nar n a = a % 2 ^ n - 2 ^ (n - 1) - 2 ^ (n - 1) := by
  unfold nar
  have h1 := Int.emod_lt_of_pos a (pow_pos' n)
  have h3 := pow_half n h0
  have h4 : (a % 2 ^ n + 2 ^ (n - 1)) % 2 ^ n = a % 2 ^ n - 2 ^ (n - 1) := by
    rw [show a % 2 ^ n + 2 ^ (n - 1) = (a % 2 ^ n - 2 ^ (n - 1)) + 2 ^ n by omega, Int.add_emod_right, Int.emod_eq_of_lt (by omega) (by omega)]
  rw [← Int.emod_add_emod, h4]
theorem pow_le_62 (n : Nat) (h : n ≤ 62) : (2 : Int) ^ n ≤ 4611686018427387904 := by
  have h1 : (2 : Nat) ^ n ≤ 2 ^ 62 := Nat.pow_le_pow_right (by decide) h
  have h2 : ((2 ^ n : Nat) : Int) ≤ ((2 ^ 62 : Nat) : Int) := by exact_mod_cast h1
  simpa using h2
theorem u64_pow (n : Nat) (h : n ≤ 63) : IntKind.u64.wrap (2 ^ n) = 2 ^ n := by
  have hp := pow_pos' n
  have h1 : (2 : Nat) ^ n ≤ 2 ^ 63 := Nat.pow_le_pow_right (by decide) h
  have h2 : ((2 ^ n : Nat) : Int) ≤ ((2 ^ 63 : Nat) : Int) := by exact_mod_cast h1
  have h3 : (2 : Int) ^ n ≤ 9223372036854775808 := by simpa using h2
  rw [wrap_u64]
  omega
theorem nar_64 (a : Int) : nar 64 a = wrap64 a := by
  unfold nar wrap64
  rw [show (2 : Int) ^ (64 - 1) = 9223372036854775808 by decide, show (2 : Int) ^ 64 = 18446744073709551616 by decide]
end Go.Proofs.Ytmaknbcfnigbmaa.Plain
