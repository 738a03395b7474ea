/- BitsNarrow, the walk: bits.Narrow tells 'nar', and the law answers true for every number and every count. -/
import Derived.Test.YtmaknbcfnigbmaaProg
import Derived.Test.YtmaknbcfnigbmaaPlain
import Derived.WalkKit
import Derived.Lib.Hide
namespace Go.Proofs.Ytmaknbcfnigbmaa
open Go.RowKit Go.Proofs.YtmaknbcfnigbmaaW.PrintWords Go.Proofs.YtmaknbcfnigbmaaW.PrintMore

theorem narrow_any (a : Int) (n : Nat) (h0 : 1 ≤ n) (h : n ≤ 64) (w : World) :
    Calls Try.prog 7 #[.int .u64 a, .int .i64 n] w fun e w' => e = .returned (.tuple #[.int .i64 (Plain.nar n a), .int .i64 0]) ∧ w = w' := by
  have H := Lib.hid (Plain.narrow_val' a n h0 h)
  have c3b0 : decide ((n : Int) < 1) = false := by simp; omega
  have c4b0 : decide ((64 : Int) < n) = false := by simp; omega
  go_enter Try.func7, Try.ntmps7
  go_wp2
  go_ret2
  exact ⟨by rw [H.out]; rfl, rfl⟩

theorem and63 (a : Int) : ∃ m : Nat, m < 64 ∧ bits .and .i64 a 63 = m := by
  have h : (BitVec.ofInt 64 a &&& BitVec.ofInt 64 63).toNat < 64 := by
    rw [BitVec.toNat_and]
    exact Nat.lt_of_le_of_lt Nat.and_le_right (by decide)
  refine ⟨(BitVec.ofInt 64 a &&& BitVec.ofInt 64 63).toNat, h, ?_⟩
  show IntKind.i64.wrap ((BitVec.ofInt 64 a &&& BitVec.ofInt 64 63).toNat : Int) = _
  rw [IntKind.wrap_i64]
  omega

theorem mask_same (a : Int) (j : Nat) (h : j < 64) (ha : 0 ≤ a) (ha2 : a < 18446744073709551616) :
    (bits BinOp.and IntKind.u64 (IntKind.u64.wrap (Plain.nar (j + 1) a)) (18446744073709551615 / 2 ^ (63 - j)) != bits BinOp.and IntKind.u64 a (18446744073709551615 / 2 ^ (63 - j))) = false := by
  have e : (18446744073709551615 : Int) / 2 ^ (63 - j) = shr .u64 18446744073709551615 (64 - ((j + 1 : Nat) : Int)) := by
    unfold shr
    have e1 : ((64 : Int) - ((j + 1 : Nat) : Int)).toNat = 63 - j := by omega
    rw [e1, Nat.min_eq_left (by show 63 - j ≤ 64; omega)]
  have hx : 0 ≤ IntKind.u64.wrap (Plain.nar (j + 1) a) ∧ IntKind.u64.wrap (Plain.nar (j + 1) a) < 18446744073709551616 := by rw [Plain.wrap_u64]; omega
  rw [e, Plain.mask_low _ (j + 1) (by omega) (by omega) hx.1 hx.2, Plain.mask_low a (j + 1) (by omega) (by omega) ha ha2, Plain.wrap_u64, Plain.mod_mod_pow _ (by omega), Plain.nar_mod]
  simp

theorem nar_again (a : Int) (j : Nat) (h : j < 64) : Plain.nar (j + 1) (IntKind.u64.wrap (Plain.nar (j + 1) a)) = Plain.nar (j + 1) a :=
  Plain.nar_congr _ _ _ (by rw [Plain.wrap_u64, Plain.mod_mod_pow _ (by omega), Plain.nar_mod])

theorem nar_within (a : Int) (j : Nat) (h : j < 63) : wrap64 (-wrap64 (2 ^ j)) ≤ Plain.nar (j + 1) a ∧ Plain.nar (j + 1) a ≤ wrap64 (wrap64 (2 ^ j) - 1) := by
  have hp2 : (2 : Int) ^ j ≤ 4611686018427387904 := by
    have h1 : (2 : Nat) ^ j ≤ 2 ^ 62 := Nat.pow_le_pow_right (by decide) (by omega)
    have h2 : ((2 ^ j : Nat) : Int) ≤ ((2 ^ 62 : Nat) : Int) := by exact_mod_cast h1
    simpa using h2
  have hq := Plain.pow_pos' j
  have hb := Plain.nar_bounds (j + 1) (by omega) a
  rw [Nat.add_sub_cancel] at hb
  have w0 : wrap64 (2 ^ j) = 2 ^ j := by unfold wrap64; omega
  rw [w0]
  have w1 : wrap64 (-(2 ^ j : Int)) = -(2 ^ j) := by unfold wrap64; omega
  have w2 : wrap64 ((2 ^ j : Int) - 1) = 2 ^ j - 1 := by unfold wrap64; omega
  rw [w1, w2]
  exact hb

theorem bitsNarrow_walk (a m : Int) (w : World) (ha : 0 ≤ a) (ha2 : a < 18446744073709551616) :
    Calls Try.prog 3 #[.int .u64 a, .int .i64 m] w fun e w' => e = .returned (.bool true) ∧ w = w' := by
  obtain ⟨j, h, hm⟩ := and63 m
  have hmk := mask_same a j h ha ha2
  have hag := Lib.hid (nar_again a j h)
  by_cases hj : j < 63
  · obtain ⟨hlo, hhi⟩ := nar_within a j hj
    have hd : decide ((j : Int) + 1 < 64) = true := by simp; omega
    have d1 : decide (Plain.nar (j + 1) a < wrap64 (-wrap64 (2 ^ j))) = false := by simp; omega
    have d2 : decide (wrap64 (wrap64 (2 ^ j) - 1) < Plain.nar (j + 1) a) = false := by simp; omega
    clear hlo hhi
    go_enter Try.func3, Try.ntmps3
    go_wp2_with fail
    rw [show (1 : Int) + j = ((j + 1 : Nat) : Int) by omega]
    refine (narrow_any _ _ (by omega) (by omega) _).mono ?_
    rintro e w' ⟨rfl, rfl⟩
    go_wp2_with fail
    rw [show (j : Int) + 1 = ((j + 1 : Nat) : Int) by omega]
    refine (narrow_any _ _ (by omega) (by omega) _).mono ?_
    rintro e w' ⟨rfl, rfl⟩
    rw [hag.out]
    go_wp2_with fail
    go_ret
    exact ⟨rfl, rfl⟩
  · obtain rfl : j = 63 := by omega
    have hmk2 : (bits BinOp.and IntKind.u64 (IntKind.u64.wrap (Plain.nar 64 a)) 18446744073709551615 != bits BinOp.and IntKind.u64 a 18446744073709551615) = false := by
      rw [show (18446744073709551615 : Int) = 18446744073709551615 / 2 ^ (63 - 63) by decide]
      exact hmk
    clear hmk
    go_enter Try.func3, Try.ntmps3
    go_wp2_with fail
    refine (narrow_any _ 64 (by omega) (by omega) _).mono ?_
    rintro e w' ⟨rfl, rfl⟩
    go_wp2_with fail
    refine (narrow_any _ 64 (by omega) (by omega) _).mono ?_
    rintro e w' ⟨rfl, rfl⟩
    rw [hag.out]
    go_wp2_with fail
    go_ret
    exact ⟨rfl, rfl⟩
end Go.Proofs.Ytmaknbcfnigbmaa
