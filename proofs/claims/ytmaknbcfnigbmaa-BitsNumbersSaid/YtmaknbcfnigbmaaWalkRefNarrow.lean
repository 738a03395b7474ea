/- The reference narrowing, walked. -/
import Derived.Test.YtmaknbcfnigbmaaPBitsNumbersx1
import Derived.Test.YtmaknbcfnigbmaaPlainB
import Derived.WalkKit
import Derived.Lib.Hide
namespace Go.Proofs.Ytmaknbcfnigbmaa
open Go.RowKit Go.Proofs.YtmaknbcfnigbmaaW.PrintWords Go.Proofs.YtmaknbcfnigbmaaW.PrintMore

theorem refNarrow_out (a n : Int) (h : n < 1 ∨ 64 < n) (w : World) :
    Calls Try.prog 14 #[.int .u64 a, .int .i64 n] w fun e w' => e = .returned (.tuple #[.int .i64 0, .int .i64 2]) ∧ w = w' := by
  by_cases h1 : n < 1
  · have c1 : decide (n < 1) = true := by simp [h1]
    clear h h1
    go_enter Try.func14, Try.ntmps14
    go_wp2
    go_ret2
    exact ⟨rfl, rfl⟩
  · have c1 : decide (n < 1) = false := by simp; omega
    have c2 : decide (64 < n) = true := by simp; omega
    clear h h1
    go_enter Try.func14, Try.ntmps14
    go_wp2
    go_ret2
    exact ⟨rfl, rfl⟩
theorem refNarrow_64 (a : Int) (w : World) :
    Calls Try.prog 14 #[.int .u64 a, .int .i64 64] w fun e w' => e = .returned (.tuple #[.int .i64 (wrap64 a), .int .i64 0]) ∧ w = w' := by
  go_enter Try.func14, Try.ntmps14
  go_wp2
  go_ret2
  exact ⟨rfl, rfl⟩
theorem refNarrow_mid (a : Int) (n : Nat) (h0 : 1 ≤ n) (h : n ≤ 63) (w : World) (ha : 0 ≤ a) (ha2 : a < 18446744073709551616) :
    Calls Try.prog 14 #[.int .u64 a, .int .i64 n] w fun e w' => e = .returned (.tuple #[.int .i64 (Plain.nar n a), .int .i64 0]) ∧ w = w' := by
  have c1 : decide ((n : Int) < 1) = false := by simp; omega
  have c2 : decide (64 < (n : Int)) = false := by simp; omega
  have c3 : ((n : Int) == 64) = false := by simp; omega
  have hz : ¬ IntKind.u64.wrap (2 ^ n) = 0 := by rw [Plain.u64_pow n h]; exact Int.ne_of_gt (Plain.pow_pos' n)
  have hb := Plain.pow_le_62 (n - 1) (by omega)
  have hp := Plain.pow_pos' (n - 1)
  have h3 := Plain.pow_half n h0
  have h1 := Int.emod_nonneg a (Int.ne_of_gt (Plain.pow_pos' n))
  have h2 := Int.emod_lt_of_pos a (Plain.pow_pos' n)
  by_cases hge : a % 2 ^ n < 2 ^ (n - 1)
  · have c4 : decide (IntKind.u64.wrap (2 ^ (n - 1)) ≤ a % IntKind.u64.wrap (2 ^ n)) = false := by
      rw [Plain.u64_pow n h, Plain.u64_pow (n - 1) (by omega)]; simp; omega
    have hv : Plain.nar n a = wrap64 (a % IntKind.u64.wrap (2 ^ n)) := by
      rw [Plain.nar_low n h0 a hge, Plain.u64_pow n h]; unfold wrap64; omega
    have HV := Lib.hid hv
    clear hge hv h1 h2 h3 hb hp
    go_enter Try.func14, Try.ntmps14
    go_wp2
    go_ret2
    exact ⟨congrArg (fun x => Ending.returned (.tuple #[.int .i64 x, .int .i64 0])) HV.out.symm, rfl⟩
  · have c4 : decide (IntKind.u64.wrap (2 ^ (n - 1)) ≤ a % IntKind.u64.wrap (2 ^ n)) = true := by
      rw [Plain.u64_pow n h, Plain.u64_pow (n - 1) (by omega)]; simp; omega
    have hv : Plain.nar n a = wrap64 (wrap64 (wrap64 (a % IntKind.u64.wrap (2 ^ n)) - wrap64 (2 ^ (n - 1))) - wrap64 (2 ^ (n - 1))) := by
      rw [Plain.nar_high n h0 a hge, Plain.u64_pow n h]; unfold wrap64; omega
    have HV := Lib.hid hv
    clear hge hv h1 h2 h3 hb hp
    go_enter Try.func14, Try.ntmps14
    go_wp2
    go_ret2
    exact ⟨congrArg (fun x => Ending.returned (.tuple #[.int .i64 x, .int .i64 0])) HV.out.symm, rfl⟩
end Go.Proofs.Ytmaknbcfnigbmaa
