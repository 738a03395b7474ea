/- PathSplits, walked. -/
import Derived.Test.YtmaknbcfnigbmaaDoorWalkRefSplit
import Derived.Test.YtmaknbcfnigbmaaDoorRanges
set_option linter.unusedSimpArgs false
set_option linter.unusedVariables false
namespace Go.Proofs.YtmaknbcfnigbmaaDoor
open Go.RowKit Sig Names Go.Proofs.YtmaknbcfnigbmaaDoor.PPathSplits Go.Proofs.YtmaknbcfnigbmaaDoorW.PrintWords

theorem base_good (s : ByteArray) (w : World) (hT : Tails w) (hR : Ranges w) (hs : s.size ≤ 1048576) (hg : Good s) :
    Calls Tryd.prog 20 #[.string s] w fun e w' => e = .returned (.string (s.extract 7 s.size)) ∧ Below w.heap.size w w' := by
  have h := split_any s w hT hR hs
  rw [split_good hg] at h
  have H := Lib.hid h
  have h7 : (7 : Int) ≤ (s.size : Int) := by have h0 : 41 ≤ s.size := hg.1; omega
  clear h hT hR hs hg
  go_enter Tryd.func20, Tryd.ntmps20
  go_wp2_with fail
  refine H.out.mono ?_
  rintro e w1 ⟨rfl, hb⟩
  have HB := Lib.hid hb
  clear hb
  go_wp2_with fail
  go_ret
  exact ⟨rfl, HB.out⟩
theorem base_bad (s : ByteArray) (w : World) (hT : Tails w) (hR : Ranges w) (hs : s.size ≤ 1048576) (hg : ¬ Good s) :
    Calls Tryd.prog 20 #[.string s] w fun e w' => e = .returned (.string ⟨#[]⟩) ∧ Below w.heap.size w w' := by
  have h := split_any s w hT hR hs
  rw [split_bad hg] at h
  have H := Lib.hid h
  clear h hT hR hs hg
  go_enter Tryd.func20, Tryd.ntmps20
  go_wp2_with fail
  refine H.out.mono ?_
  rintro e w1 ⟨rfl, hb⟩
  have HB := Lib.hid hb
  clear hb
  go_wp2_with fail
  go_ret
  exact ⟨rfl, HB.out⟩
theorem names09 (w : World) : Calls Tryd.prog 21 #[] w fun e w' => e = .returned (.bool true) ∧ w = w' := by
  go_enter Tryd.func21, Tryd.ntmps21
  go_wp2_with fail
  go_ret
  exact ⟨rfl, rfl⟩
set_option maxHeartbeats 2000000 in
set_option maxRecDepth 100000 in
theorem splits_any (s : ByteArray) (w : World) (hT : Tails w) (hR : Ranges w) (hs : s.size ≤ 1048576) :
    Calls Tryd.prog 5 #[.string s] w fun e w' => e = .returned (.bool true) ∧ Below w.heap.size w w' := by
  have HT := Lib.hid hT
  have HR := Lib.hid hR
  have LS := Lib.hid hs
  clear hT hR hs
  by_cases hg : Good s
  · have h7 : (7 : Int) ≤ (s.size : Int) := by have h0 : 41 ≤ s.size := hg.1; omega
    have S1 : Hid (∀ W, Tails W → Ranges W → Calls Tryd.prog 18 #[.string s] W fun e w' => e = .returned (.tuple #[.string (s.extract 7 39), .string (s.extract 40 s.size), .int .i64 0]) ∧ Below W.heap.size W w') := fun W h1 h2 => by
      rw [← split_good hg]; exact split_any s W h1 h2 LS.out
    have S2 : Hid (∀ W, Calls Tryd.prog 19 #[.string s] W fun e w' => e = .returned (.tuple #[.string (s.extract 7 39), .string (s.extract 40 s.size), .int .i64 0]) ∧ Below W.heap.size W w') := fun W => by
      rw [← split_good hg]; exact refSplit_any s W LS.out
    have S3 : Hid (∀ W, Tails W → Ranges W → Calls Tryd.prog 20 #[.string s] W fun e w' => e = .returned (.string (s.extract 7 s.size)) ∧ Below W.heap.size W w') := fun W h1 h2 => base_good s W h1 h2 LS.out hg
    clear hg
    go_enter Tryd.func5, Tryd.ntmps5
    go_wp2_with fail
    refine (S1.out w HT.out HR.out).mono ?_
    rintro e w1 ⟨rfl, hb⟩
    have B1 : Hid (Below w.heap.size w w1) := hb
    clear hb
    go_wp2_with fail
    refine (S2.out w1).mono ?_
    rintro e w2 ⟨rfl, hb⟩
    have B2 := Lib.hid (below_step' B1.out hb)
    clear hb
    go_wp2_with fail
    refine (S3.out w2 (HT.out.below B2.out) (HR.out.below B2.out)).mono ?_
    rintro e w3 ⟨rfl, hb⟩
    have B3 := Lib.hid (below_step' B2.out hb)
    clear hb
    go_wp2_with fail
    refine (names09 w3).mono ?_
    rintro e w4 ⟨rfl, rfl⟩
    go_wp2_with fail
    go_ret
    exact ⟨rfl, B3.out⟩
  · have S1 : Hid (∀ W, Tails W → Ranges W → Calls Tryd.prog 18 #[.string s] W fun e w' => e = .returned (.tuple #[.string ⟨#[]⟩, .string ⟨#[]⟩, .int .i64 17]) ∧ Below W.heap.size W w') := fun W h1 h2 => by
      rw [← split_bad hg]; exact split_any s W h1 h2 LS.out
    have S2 : Hid (∀ W, Calls Tryd.prog 19 #[.string s] W fun e w' => e = .returned (.tuple #[.string ⟨#[]⟩, .string ⟨#[]⟩, .int .i64 17]) ∧ Below W.heap.size W w') := fun W => by
      rw [← split_bad hg]; exact refSplit_any s W LS.out
    have S3 : Hid (∀ W, Tails W → Ranges W → Calls Tryd.prog 20 #[.string s] W fun e w' => e = .returned (.string ⟨#[]⟩) ∧ Below W.heap.size W w') := fun W h1 h2 => base_bad s W h1 h2 LS.out hg
    clear hg
    go_enter Tryd.func5, Tryd.ntmps5
    go_wp2_with fail
    refine (S1.out w HT.out HR.out).mono ?_
    rintro e w1 ⟨rfl, hb⟩
    have B1 : Hid (Below w.heap.size w w1) := hb
    clear hb
    go_wp2_with fail
    refine (S2.out w1).mono ?_
    rintro e w2 ⟨rfl, hb⟩
    have B2 := Lib.hid (below_step' B1.out hb)
    clear hb
    go_wp2_with fail
    refine (S3.out w2 (HT.out.below B2.out) (HR.out.below B2.out)).mono ?_
    rintro e w3 ⟨rfl, hb⟩
    have B3 := Lib.hid (below_step' B2.out hb)
    clear hb
    go_wp2_with fail
    refine (names09 w3).mono ?_
    rintro e w4 ⟨rfl, rfl⟩
    go_wp2_with fail
    go_ret
    exact ⟨rfl, B3.out⟩
end Go.Proofs.YtmaknbcfnigbmaaDoor
