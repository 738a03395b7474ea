/- Plain facts on whole numbers: shifts, masks and narrowing, with no program in sight. -/
import Derived.Test.YtmaknbcfnigbmaaWMore
import Derived.Laws.BitsAllLaws
namespace Go.Proofs.Ytmaknbcfnigbmaa.Plain
open Go.RowKit Go.Proofs.YtmaknbcfnigbmaaW.PrintWords Go.Proofs.YtmaknbcfnigbmaaW.PrintLast Go.Proofs.YtmaknbcfnigbmaaW.PrintMore

/-- A number as one with a sign of n bits. -/
def nar (n : Nat) (a : Int) : Int := (a + 2 ^ (n - 1)) % 2 ^ n - 2 ^ (n - 1)

theorem pow_pos' (n : Nat) : (0 : Int) < 2 ^ n := Int.pow_pos (by decide)
theorem pow_half (n : Nat) (h : 1 ≤ n) : (2 : Int) ^ n = 2 * 2 ^ (n - 1) := by
  obtain ⟨m, rfl⟩ : ∃ m, n = m + 1 := ⟨n - 1, by omega⟩
  rw [Nat.add_sub_cancel, Int.pow_succ]; omega
theorem pow_split (n : Nat) (h : n ≤ 64) : (2 : Int) ^ (64 - n) * 2 ^ n = 18446744073709551616 := by
  rw [← Int.pow_add, Nat.sub_add_cancel h]; rfl
theorem wrap_u64 (n : Int) : IntKind.u64.wrap n = n % 18446744073709551616 := by simp [IntKind.wrap, IntKind.bits, IntKind.signed]

theorem nar_bounds (n : Nat) (h : 1 ≤ n) (a : Int) : -(2 ^ (n - 1)) ≤ nar n a ∧ nar n a ≤ 2 ^ (n - 1) - 1 := by
  unfold nar
  have h1 := Int.emod_nonneg (a + 2 ^ (n - 1)) (Int.ne_of_gt (pow_pos' n))
  have h2 := Int.emod_lt_of_pos (a + 2 ^ (n - 1)) (pow_pos' n)
  have h3 := pow_half n h
  omega
theorem nar_mod (n : Nat) (a : Int) : nar n a % 2 ^ n = a % 2 ^ n := by
  unfold nar
  rw [Int.emod_sub_emod]
  congr 1
  omega
theorem nar_congr (n : Nat) (a b : Int) (h : a % 2 ^ n = b % 2 ^ n) : nar n a = nar n b := by
  unfold nar
  rw [← Int.emod_add_emod, h, Int.emod_add_emod]
theorem nar_self (n : Nat) (h : 1 ≤ n) (x : Int) (h1 : -(2 ^ (n - 1)) ≤ x) (h2 : x ≤ 2 ^ (n - 1) - 1) : nar n x = x := by
  unfold nar
  have h3 := pow_half n h
  rw [Int.emod_eq_of_lt (by omega) (by omega)]
  omega
theorem mod_mod_pow (n : Nat) (h : n ≤ 64) (x : Int) : x % 18446744073709551616 % 2 ^ n = x % 2 ^ n := by
  rw [← pow_split n h, Int.mul_comm]
  exact Int.emod_emod_of_dvd _ ⟨_, rfl⟩

theorem pow_le_half (n : Nat) (h0 : 1 ≤ n) (h : n ≤ 64) : (2 : Int) ^ (n - 1) ≤ 9223372036854775808 := by
  have h1 : (2 : Nat) ^ (n - 1) ≤ 2 ^ 63 := Nat.pow_le_pow_right (by decide) (by omega)
  have h2 : ((2 ^ (n - 1) : Nat) : Int) ≤ ((2 ^ 63 : Nat) : Int) := by exact_mod_cast h1
  simpa using h2
theorem narrow_val (a : Int) (n : Nat) (h0 : 1 ≤ n) (h : n ≤ 64) : shr .i64 (wrap64 (shl .u64 a (64 - (n : Int)))) (64 - (n : Int)) = nar n a := by
  unfold shr shl
  have e1 : ((64 : Int) - (n : Int)).toNat = 64 - n := by omega
  have e2 : min (64 - n) IntKind.u64.bits = 64 - n := Nat.min_eq_left (by show 64 - n ≤ 64; omega)
  have e3 : min (64 - n) IntKind.i64.bits = 64 - n := Nat.min_eq_left (by show 64 - n ≤ 64; omega)
  rw [e1, e2, e3, wrap_u64]
  have hM := pow_split n h
  have hH := pow_half n h0
  generalize hP : (2 : Int) ^ (64 - n) = P at *
  have hPp : 0 < P := hP ▸ pow_pos' _
  have hhalf : P * 2 ^ (n - 1) = 9223372036854775808 := by
    rw [hH, ← Int.mul_assoc, Int.mul_comm P 2, Int.mul_assoc] at hM
    omega
  unfold wrap64 nar
  have e4 : a * P % 18446744073709551616 + 9223372036854775808 = P * (a % 2 ^ n + 2 ^ (n - 1)) := by
    rw [← hM, Int.mul_comm a P, Int.mul_emod_mul_of_pos _ _ hPp, Int.mul_add, hhalf]
  rw [e4]
  have e5 : P * (a % 2 ^ n + 2 ^ (n - 1)) % 18446744073709551616 - 9223372036854775808 = P * ((a % 2 ^ n + 2 ^ (n - 1)) % 2 ^ n - 2 ^ (n - 1)) := by
    conv => lhs; rw [← hM, ← hhalf]
    rw [Int.mul_emod_mul_of_pos _ _ hPp, Int.mul_sub]
  rw [e5, Int.mul_ediv_cancel_left _ (Int.ne_of_gt hPp), Int.emod_add_emod]

theorem narrow_val' (a : Int) (n : Nat) (h0 : 1 ≤ n) (h : n ≤ 64) : wrap64 (IntKind.u64.wrap (a * 2 ^ (64 - n))) / 2 ^ (64 - n) = nar n a := by
  have H := narrow_val a n h0 h
  unfold shr shl at H
  have e1 : ((64 : Int) - (n : Int)).toNat = 64 - n := by omega
  have e2 : min (64 - n) IntKind.u64.bits = 64 - n := Nat.min_eq_left (by show 64 - n ≤ 64; omega)
  have e3 : min (64 - n) IntKind.i64.bits = 64 - n := Nat.min_eq_left (by show 64 - n ≤ 64; omega)
  rwa [e1, e2, e3] at H

/-- The lowest n bits of a number that fits its word. -/
theorem mask_low (x : Int) (n : Nat) (h0 : 1 ≤ n) (h : n ≤ 64) (hx0 : 0 ≤ x) (hx1 : x < 18446744073709551616) : Go.bits .and .u64 x (shr .u64 18446744073709551615 (64 - (n : Int))) = x % 2 ^ n := by
  unfold shr
  have e1 : ((64 : Int) - (n : Int)).toNat = 64 - n := by omega
  have e2 : min (64 - n) IntKind.u64.bits = 64 - n := Nat.min_eq_left (by show 64 - n ≤ 64; omega)
  rw [e1, e2]
  have e3 : (18446744073709551615 : Int) / 2 ^ (64 - n) = ((2 ^ n - 1 : Nat) : Int) := by
    have hM := pow_split n h
    have hp : (0 : Int) < 2 ^ (64 - n) := pow_pos' _
    have hq : (0 : Int) < 2 ^ n := pow_pos' _
    have e : (18446744073709551615 : Int) = (2 ^ (64 - n) - 1) + 2 ^ (64 - n) * (2 ^ n - 1) := by
      rw [Int.mul_sub, hM]; omega
    rw [e, Int.add_mul_ediv_left _ _ (Int.ne_of_gt hp), Int.ediv_eq_zero_of_lt (by omega) (by omega)]
    have h1 : 1 ≤ 2 ^ n := Nat.one_le_two_pow
    rw [Int.natCast_sub h1]
    simp
  rw [e3]
  obtain ⟨x, rfl⟩ := Int.eq_ofNat_of_zero_le hx0
  have hlt : 2 ^ n - 1 < 18446744073709551616 := by
    have : 2 ^ n ≤ 2 ^ 64 := Nat.pow_le_pow_right (by decide) h
    have h1 : 1 ≤ 2 ^ n := Nat.one_le_two_pow
    omega
  rw [Go.u64_and_nat x (2 ^ n - 1) (by omega) hlt, Nat.and_two_pow_sub_one_eq_mod]
  simp
end Go.Proofs.Ytmaknbcfnigbmaa.Plain
