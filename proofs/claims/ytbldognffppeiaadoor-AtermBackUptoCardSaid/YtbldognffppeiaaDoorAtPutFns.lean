/- Put's three functions, walked. -/
import Derived.Test.YtbldognffppeiaaDoorAtList
namespace Go.Proofs.YtbldognffppeiaaDoor
open Go.RowKit Quo
set_option linter.unusedSimpArgs false
set_option linter.unusedVariables false
theorem row3 (a b c : ByteArray) : [40] ++ joinC ([a, b, c].map quoS) ++ [41] = outD (a, b, c) := by
  unfold joinC outD
  simp [Lib.join_cons, Lib.joinTail]
theorem row2 (a b : ByteArray) : [40] ++ joinC ([a, b].map quoS) ++ [41] = envD (a, b) := by
  unfold joinC envD
  simp [Lib.join_cons, Lib.joinTail]
set_option maxHeartbeats 2000000 in
set_option maxRecDepth 100000 in
theorem put1_any (a b c : ByteArray) (ha : a.size ≤ 1048576) (hb : b.size ≤ 1048576) (hc : c.size ≤ 1048576) (w : World) (hT : Tabs w) : Calls Tryd.prog 23 #[.agg #[.string a, .string b, .string c]] w fun e w' => e = .returned (.string (tx (outD (a, b, c)))) ∧ Below w.heap.size w w' := by
  have HB : Hid (Below w.heap.size w ((w.alloc (.cells #[.string a, .string b, .string c] 49)).alloc (.cells #[.string a, .string b, .string c] 9))) := ((Below.refl _ w).alloc (Nat.le_refl _) _).alloc (by rw [World.size_alloc]; omega) _
  have HK : Hid (Blk ((w.alloc (.cells #[.string a, .string b, .string c] 49)).alloc (.cells #[.string a, .string b, .string c] 9)) (w.heap.size + 1) 9 (strCells [a, b, c])) := by
    have h := Blk.new (w.alloc (.cells #[.string a, .string b, .string c] 49)) 9 #[.string a, .string b, .string c]
    rw [World.size_alloc] at h
    exact h
  have HC := Lib.hid (row_any [a, b, c] (by simp) (fun s hs => by
    simp only [List.mem_cons, List.not_mem_nil, or_false] at hs
    rcases hs with rfl | rfl | rfl <;> assumption) w _ hT HB.out (w.heap.size + 1) (Nat.le_succ _) HK.out)
  rw [row3] at HC
  clear HB HK hT
  go_enter Tryd.func23, Tryd.ntmps23
  go_wp2_with (first
    | (go_at_call 24; refine HC.out.mono ?_; rintro e w1 ⟨rfl, hb⟩; have HB1 := Lib.hid hb; clear hb)
    | fail)
  go_ret
  exact ⟨rfl, HB1.out⟩
set_option maxHeartbeats 2000000 in
set_option maxRecDepth 100000 in
theorem put3_any (a b : ByteArray) (ha : a.size ≤ 1048576) (hb : b.size ≤ 1048576) (w : World) (hT : Tabs w) : Calls Tryd.prog 29 #[.agg #[.string a, .string b]] w fun e w' => e = .returned (.string (tx (envD (a, b)))) ∧ Below w.heap.size w w' := by
  have HB : Hid (Below w.heap.size w ((w.alloc (.cells #[.string a, .string b] 70)).alloc (.cells #[.string a, .string b] 9))) := ((Below.refl _ w).alloc (Nat.le_refl _) _).alloc (by rw [World.size_alloc]; omega) _
  have HK : Hid (Blk ((w.alloc (.cells #[.string a, .string b] 70)).alloc (.cells #[.string a, .string b] 9)) (w.heap.size + 1) 9 (strCells [a, b])) := by
    have h := Blk.new (w.alloc (.cells #[.string a, .string b] 70)) 9 #[.string a, .string b]
    rw [World.size_alloc] at h
    exact h
  have HC := Lib.hid (row_any [a, b] (by simp) (fun s hs => by
    simp only [List.mem_cons, List.not_mem_nil, or_false] at hs
    rcases hs with rfl | rfl <;> assumption) w _ hT HB.out (w.heap.size + 1) (Nat.le_succ _) HK.out)
  rw [row2] at HC
  clear HB HK hT
  go_enter Tryd.func29, Tryd.ntmps29
  go_wp2_with (first
    | (go_at_call 24; refine HC.out.mono ?_; rintro e w1 ⟨rfl, hb⟩; have HB1 := Lib.hid hb; clear hb)
    | fail)
  go_ret
  exact ⟨rfl, HB1.out⟩
end Go.Proofs.YtbldognffppeiaaDoor
