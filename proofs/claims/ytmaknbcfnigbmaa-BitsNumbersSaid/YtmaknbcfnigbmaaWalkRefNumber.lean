/- The reference number of bytes, walked. -/
import Derived.Test.YtmaknbcfnigbmaaPBitsNumbersx1
import Derived.Test.YtmaknbcfnigbmaaPlainB
import Derived.WalkKit
import Derived.Lib.Hide
namespace Go.Proofs.Ytmaknbcfnigbmaa
open Go.RowKit Go.Proofs.YtmaknbcfnigbmaaW.PrintWords Go.Proofs.YtmaknbcfnigbmaaW.PrintMore

theorem num_take (xs : List Int) (j : Nat) (h : j < xs.length) : Plain.num 0 (xs.take (j + 1)) = Plain.num 0 (xs.take j) * 256 + rd xs j := by
  unfold Plain.num
  rw [List.take_succ_eq_append_getElem h, List.foldl_append]
  simp [rd, h]
theorem num_bound (xs : List Int) (hx : ∀ x ∈ xs, 0 ≤ x ∧ x < 256) : ∀ j : Nat, j ≤ xs.length → 0 ≤ Plain.num 0 (xs.take j) ∧ Plain.num 0 (xs.take j) < 256 ^ j := by
  intro j
  induction j with
  | zero => intro _; simp [Plain.num]
  | succ j ih =>
    intro h
    have hh := ih (by omega)
    have hr := hx xs[j] (List.getElem_mem (by omega))
    rw [num_take xs j (by omega), Int.pow_succ]
    have er : rd xs (j : Int) = xs[j] := by simp [rd, show j < xs.length by omega]
    rw [er]
    omega
theorem pow256_le (j : Nat) (h : j ≤ 7) : (256 : Int) ^ j ≤ 72057594037927936 := by
  have h1 : (256 : Nat) ^ j ≤ 256 ^ 7 := Nat.pow_le_pow_right (by decide) h
  have h2 : ((256 ^ j : Nat) : Int) ≤ ((256 ^ 7 : Nat) : Int) := by exact_mod_cast h1
  simpa using h2

theorem refNumber_out (A : Option Addr) (n c : Nat) (h : n < 1 ∨ 8 < n) (hn : n ≤ 9223372036854775807) (w : World) :
    Calls Try.prog 15 #[.slice A n c] w fun e w' => e = .returned (.tuple #[.int .u64 0, .int .i64 2]) ∧ w = w' := by
  by_cases h1 : n < 1
  · have c1 : decide ((n : Int) < 1) = true := by simp; omega
    obtain rfl : n = 0 := by omega
    clear h h1
    go_enter Try.func15, Try.ntmps15
    go_wp2
    go_ret2
    exact ⟨rfl, rfl⟩
  · have c1 : decide ((n : Int) < 1) = false := by simp; omega
    have c2 : decide (8 < (n : Int)) = true := by simp; omega
    clear h h1
    go_enter Try.func15, Try.ntmps15
    go_wp2
    go_ret2
    exact ⟨rfl, rfl⟩
theorem refNumber_in (A : Option Addr) (xs : List Int) (c : Nat) (h1 : 1 ≤ xs.length) (h8 : xs.length ≤ 8) (hx : ∀ x ∈ xs, 0 ≤ x ∧ x < 256) (w : World) (hr : Kd.C (Kd.int .u8) w A xs.length xs) :
    Calls Try.prog 15 #[.slice A xs.length c] w fun e w' => e = .returned (.tuple #[.int .u64 (Plain.num 0 xs), .int .i64 0]) ∧ w = w' := by
  have c1 : decide ((xs.length : Int) < 1) = false := by simp; omega
  have c2 : decide (8 < (xs.length : Int)) = false := by simp; omega
  have HR := Lib.hid hr
  have HX := Lib.hid hx
  clear hr hx
  go_enter Try.func15, Try.ntmps15
  go_wp2
  go_loop [4, 5] (fun v i => ∃ j : Nat, j ≤ xs.length ∧ i = .int .i64 j ∧ v = .int .u64 (Plain.num 0 (xs.take j))) (fun _ i => xs.length - (intOf i).toNat)
  case atStart => exact ⟨0, Nat.zero_le _, rfl, rfl⟩
  case round =>
    obtain ⟨j, hj, rfl, rfl⟩ := hrel
    by_cases hlt : j < xs.length
    · obtain ⟨ad, rfl, hcell⟩ := Kd.at_int HR.out (j : Int) (by omega) (by omega)
      have hb := num_bound xs HX.out j hj
      have hp := pow256_le j (by omega)
      have hb0 : 0 ≤ Plain.num 0 (xs.take j) := hb.1
      have hb1 : Plain.num 0 (xs.take j) < 72057594037927936 := by omega
      have HS := Lib.hid (num_take xs j hlt)
      have er : rd xs (j : Int) = xs[j] := by simp [rd, hlt]
      have hx := HX.out xs[j] (List.getElem_mem hlt)
      have hx0 : 0 ≤ rd xs (j : Int) := by rw [er]; exact hx.1
      have hx1 : rd xs (j : Int) < 256 := by rw [er]; exact hx.2
      clear hb hp er hx
      rw [Int.toNat_natCast] at hcell
      go_wp2
      go_round
      case rel => exact ⟨j + 1, by omega, by go_num, by rw [HS.out]⟩
      case measure => simp [intOf]; omega
    · obtain rfl : j = xs.length := by omega
      go_wp2
      go_ret2
      exact ⟨rfl, rfl⟩
end Go.Proofs.Ytmaknbcfnigbmaa
