/- BitsNumbers, the law's walk: true for every number, count and bytes. -/
import Derived.Test.YtmaknbcfnigbmaaPureBitsNumbers
import Derived.Test.YtmaknbcfnigbmaaWalkRefNarrow
import Derived.Test.YtmaknbcfnigbmaaWalkRefNumber
namespace Go.Proofs.Ytmaknbcfnigbmaa
open Go.RowKit Go.Proofs.YtmaknbcfnigbmaaW.PrintWords Go.Proofs.YtmaknbcfnigbmaaW.PrintMore Go.Proofs.Ytmaknbcfnigbmaa.PBitsNumbers

/-- Both narrowings tell the same. -/
theorem narrow_both (a n : Int) (ha : 0 ≤ a) (ha2 : a < 18446744073709551616) : ∃ z f, (∀ w, Calls Try.prog 7 #[.int .u64 a, .int .i64 n] w fun e w' => e = .returned (.tuple #[.int .i64 z, .int .i64 f]) ∧ Drawn0 w w') ∧
    ∀ w, Calls Try.prog 14 #[.int .u64 a, .int .i64 n] w fun e w' => e = .returned (.tuple #[.int .i64 z, .int .i64 f]) ∧ Drawn0 w w' := by
  have dr : ∀ {e z : Ending} {w w' : World}, e = z ∧ w = w' → e = z ∧ Drawn0 w w' := fun ⟨h1, h2⟩ => ⟨h1, h2 ▸ Drawn0.refl _⟩
  by_cases h : n < 1 ∨ 64 < n
  · exact ⟨0, 2, fun w => bits_Narrow.calls a n 0 2 w (Nums.narrow_out a n h), fun w => (refNarrow_out a n h w).mono fun _ _ hh => dr hh⟩
  · obtain ⟨m, rfl⟩ := Int.eq_ofNat_of_zero_le (show 0 ≤ n by omega)
    refine ⟨Plain.nar m a, 0, fun w => bits_Narrow.calls a m _ 0 w (Nums.narrow_in a m (by omega) (by omega)), fun w => ?_⟩
    by_cases h64 : m = 64
    · subst h64
      rw [Plain.nar_64]
      exact (refNarrow_64 a w).mono fun _ _ hh => dr hh
    · exact (refNarrow_mid a m (by omega) (by omega) w ha ha2).mono fun _ _ hh => dr hh

theorem numbers_walk (v : Nat) (hv : v < 18446744073709551616) (k : Int) (hk : (Lit.int .i64 k).wf = true) (A : Option Addr) (c : Nat) (xs : List Int) (hx : ∀ x ∈ xs, 0 ≤ x ∧ x < 256) (hl : xs.length ≤ c) (hm : xs.length ≤ 9223372036854775807) (w : World) (hr : Kd.C (Kd.int .u8) w A xs.length xs) :
    Calls Try.prog 5 #[.int .u64 v, .int .i64 k, .slice A xs.length c] w fun e w' => e = .returned (.bool true) ∧ Below w.heap.size w w' := by
  have hrot := Lib.hid (Nums.rotate_f (v % 4294967296) k (Nat.mod_lt _ (by decide)))
  have hrot2 := Lib.hid (Nums.refRotate_f (v % 4294967296) k (Nat.mod_lt _ (by decide)) hk)
  have hm : (v : Int) % 4294967296 = ((v % 4294967296 : Nat) : Int) := by omega
  have HM := Lib.hid hm
  have HR := Lib.hid hr
  clear hm hr
  go_enter Try.func5, Try.ntmps5
  go_wp2_with fail
  rw [HM.out]
  refine (bits_Rotate.calls _ _ _ _ hrot.out).mono ?_
  rintro e w1 ⟨rfl, ⟨n1, rfl⟩⟩
  go_wp2_with fail
  rw [HM.out]
  refine (stillroomref01_Rotate.calls _ _ _ _ hrot2.out).mono ?_
  rintro e w1 ⟨rfl, ⟨n2, rfl⟩⟩
  go_wp2_with fail
  refine (stillroomlaw01_names.calls _ _ rfl).mono ?_
  rintro e w1 ⟨rfl, ⟨n3, rfl⟩⟩
  go_wp2_with fail
  have HB : Below w.heap.size w (w.drewN (n1 + n2 + n3)) := pw_below_drewN (Below.refl _ _) _
  go_loopw [7] (fun t wr => ∃ j : Nat, j ≤ 68 ∧ t = .int .i64 ((j : Int) - 1) ∧ Below w.heap.size w wr) (fun t _ => 68 - (intOf t + 1).toNat)
  case atStart => exact ⟨0, by omega, rfl, HB⟩
  case round =>
    clear HB
    obtain ⟨j, hj, rfl, HB⟩ := hrel
    have HB := Lib.hid HB
    by_cases hlt : j < 68
    · obtain ⟨r1, r2, hb1, hb2⟩ := Nums.bytes_both v hv ((j : Int) - 1)
      obtain ⟨z, f, hn1, hn2⟩ := narrow_both v ((j : Int) - 1) (by omega) (by omega)
      have hb1 := Lib.hid hb1
      have hb2 := Lib.hid hb2
      have hn1 := Lib.hid hn1
      have hn2 := Lib.hid hn2
      go_wp2_with fail
      refine (bits_Bytes.calls _ _ _ _ _ _ hb1.out).mono ?_
      rintro e w1 ⟨v1, rfl, ho1, hw1⟩
      go_wp2_with fail
      refine (stillroomref01_Bytes.calls _ _ _ _ _ _ hb2.out).mono ?_
      rintro e w2 ⟨v2, rfl, ho2, hw2⟩
      go_wp2_with fail
      refine (hn1.out _).mono ?_
      rintro e w3 ⟨rfl, ⟨m1, rfl⟩⟩
      go_wp2_with fail
      refine (hn2.out _).mono ?_
      rintro e w3 ⟨rfl, ⟨m2, rfl⟩⟩
      have hc1 := own_string (P := Try.prog) (w := w2.drewN (m1 + m2)) Try.underlying29 Try.underlying5 Try.underlying9 (Kd.own_of_R (Kd.R_drewN (Kd.R_below ho1 hw2) (m1 + m2)))
      have hc2 := own_string (P := Try.prog) (w := w2.drewN (m1 + m2)) Try.underlying29 Try.underlying5 Try.underlying9 (Kd.own_of_R (Kd.R_drewN ho2 (m1 + m2)))
      go_wp2_with fail
      refine ⟨⟨j + 1, by omega, by rw [show ((j + 1 : Nat) : Int) - 1 = j by omega], ?_⟩, by simp [intOf]; omega⟩
      exact pw_below_drewN (below_step (below_step HB.out hw1) hw2) _
    · obtain rfl : j = 68 := by omega
      have HBW := HB.out
      have HC : Hid (Kd.C (Kd.int .u8) wr A xs.length xs) := Kd.C_below HR.out HBW
      clear HBW
      by_cases hin : xs.length < 1 ∨ 8 < xs.length
      · have hn := Lib.hid (Nums.number_out xs hin)
        have hin := Lib.hid hin
        go_wp2_with fail
        refine (bits_Number.calls _ A c xs _ _ _ HC.out hl hn.out).mono ?_
        rintro e w1 ⟨rfl, ⟨m1, rfl⟩⟩
        go_wp2_with fail
        refine (refNumber_out A xs.length c hin.out hm _).mono ?_
        rintro e w1 ⟨rfl, rfl⟩
        go_wp2_with fail
        go_ret
        exact ⟨rfl, pw_below_drewN HB.out _⟩
      · have hn := Lib.hid (Nums.number_in xs hx (by omega) (by omega))
        have h1 : 1 ≤ xs.length := by omega
        have h8 : xs.length ≤ 8 := by omega
        clear hin
        have HX := Lib.hid hx
        clear hx
        go_wp2_with fail
        refine (bits_Number.calls _ A c xs _ _ _ HC.out hl hn.out).mono ?_
        rintro e w1 ⟨rfl, ⟨m1, rfl⟩⟩
        go_wp2_with fail
        refine (refNumber_in A xs c h1 h8 HX.out _ (Kd.C_drewN HC.out _)).mono ?_
        rintro e w1 ⟨rfl, rfl⟩
        go_wp2_with fail
        go_ret
        exact ⟨rfl, pw_below_drewN HB.out _⟩
end Go.Proofs.Ytmaknbcfnigbmaa
