/- stillroomref08.texts on two lists of the same texts; names. -/
import Derived.Test.YtbldognffppeiaaDoorAtOwn
import Derived.Deep.QuietTactic
import Derived.BigQuiet
namespace Go.Proofs.YtbldognffppeiaaDoor
open Go.RowKit
set_option linter.unusedSimpArgs false
set_option linter.unusedVariables false
theorem names_any (w : World) : Calls Tryd.prog 15 #[] w fun e w' => e = .returned (.bool true) ∧ w' = w := by
  go_enter Tryd.func15, Tryd.ntmps15
  go_wp2_with fail
  go_ret
  exact ⟨rfl, rfl⟩
set_option maxHeartbeats 4000000 in
set_option maxRecDepth 100000 in
theorem texts_same (A A' : Option Addr) (l : List ByteArray) (c c' : Nat) (hl : l.length ≤ 1048576) (w : World) (h : StrsAt w A l) (h' : StrsAt w A' l) :
    Calls Tryd.prog 43 #[.slice A l.length c, .slice A' l.length c'] w fun e w' => e = .returned (.bool true) ∧ ∃ m, w' = w.drewN m := by
  have H := Lib.hid h
  have H' := Lib.hid h'
  obtain ⟨n, hn⟩ : ∃ n, Hid (n = l.length) := ⟨_, rfl⟩
  rw [← hn.out] at hl ⊢
  clear h h'
  go_enter Tryd.func43, Tryd.ntmps43
  go_wp2_with fail
  go_loopw [5] (fun t5 wr => ∃ k m : Nat, t5 = .int .i64 k ∧ k ≤ n ∧ wr = w.drewN m) (fun t5 _ => n - (intOf t5).toNat)
  case atStart => exact ⟨0, 0, rfl, Nat.zero_le _, rfl⟩
  case round =>
    obtain ⟨k, m, rfl, hk, rfl⟩ := hrel
    by_cases hlt : k < n
    · obtain ⟨s, hs⟩ : ∃ s, Hid (l[k]? = some s) := ⟨_, List.getElem?_eq_getElem (by rw [← hn.out]; exact hlt)⟩
      obtain ⟨g, o, rfl, q1⟩ := H.out k s hs.out
      obtain ⟨g', o', rfl, q2⟩ := H'.out k s hs.out
      have d1 : (k : Int) < (n : Int) := by omega
      have d2 : (0 : Int) ≤ (k : Int) := by omega
      go_upto_region 6 with (fail)
      go_quiet (fail)
      go_wp2_with fail
      exact ⟨⟨k + 1, m + nq, by first | rfl | simp, by omega, rfl⟩, by simp [intOf]; omega⟩
    · obtain rfl : n = k := by omega
      have d1 : ¬ (n : Int) < (n : Int) := by omega
      go_wp2_with fail
      go_ret
      exact ⟨rfl, m, rfl⟩
end Go.Proofs.YtbldognffppeiaaDoor
