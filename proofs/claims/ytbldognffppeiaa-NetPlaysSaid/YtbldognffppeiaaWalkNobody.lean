/- NetNobody, walked: nil, and a network that no call made. -/
import Derived.Test.YtbldognffppeiaaProg
import Derived.WalkKit
import Derived.Deep.Draws
import Derived.Lib.Hide
import Derived.Deep.QuietTactic
import Derived.BigQuiet
import Derived.WalkSpells
import Derived.Below
import Derived.Laws.Rows
import Derived.Deep.CutBlock
import Derived.Deep.DeepCutAuto
namespace Go.Proofs.Ytbldognffppeiaa
open Go.RowKit

/-- No network: nil, or one that no call made. -/
def NoNet (w : World) (p : Value) : Prop := p = .pointer none ∨ ∃ g, p = .pointer (some ⟨g, 0, none⟩) ∧ w.heap[g]? = some (.cells #[.map none, .slice none 0 0, .int .i64 0] 28 (0, 0))
theorem cell_at {w : World} {g : Nat} {cs : Array Value} {t : TypeId} (h : w.heap[g]? = some (.cells cs t (0, 0))) (i : Nat) : w.cell? ⟨g, i, none⟩ = cs[i]? := by simp [World.cell?, h]
set_option maxHeartbeats 1000000 in
theorem none_call (w : World) (p : Value) (h : NoNet w p) : Calls Try.prog 15 #[p] w fun e w' => e = .returned (.bool true) ∧ w = w' := by
  rcases h with rfl | ⟨g, rfl, hg⟩
  · go_enter Try.func15, Try.ntmps15
    go_wp2_with fail
    go_ret
    exact ⟨rfl, rfl⟩
  · have hc : w.cell? ⟨g, 0, none⟩ = some (.map none) := by rw [cell_at hg]; rfl
    clear hg
    have hq : ∀ W, (Op.equalIn 10000 25 (.map none) (.map none)).run Try.prog W = .ok true W := fun W => run_equalIn_map_nil W 9999 25 _ _ none Try.underlying25
    have hq2 : ∀ W, (binOp .eql 25 (.map none) (.map none)).run Try.prog W = .ok (.bool true) W := fun W => by
      simp only [binOp]
      simp [Op.equal, Op.maxDepth, hq]
    clear hq
    go_enter Try.func15, Try.ntmps15
    go_wp2_with fail
    go_ret
    exact ⟨rfl, rfl⟩
theorem size_call (w : World) (p : Value) (s : ByteArray) (h : NoNet w p) : Calls Try.prog 7 #[p, .string s] w fun e w' => e = .returned (.tuple #[.int .i64 0, .int .i64 1]) ∧ w = w' := by
  have H := Lib.hid h
  clear h
  go_enter Try.func7, Try.ntmps7
  go_wp2_with fail
  refine (none_call w p H.out).mono ?_
  rintro e w1 ⟨rfl, rfl⟩
  go_wp2_with fail
  go_ret2
  exact ⟨rfl, rfl⟩
theorem get_call (w : World) (p : Value) (s : ByteArray) (a b : Int) (h : NoNet w p) : Calls Try.prog 8 #[p, .string s, .int .i64 a, .int .i64 b] w fun e w' => e = .returned (.tuple #[.slice none 0 0, .int .i64 1]) ∧ w = w' := by
  have H := Lib.hid h
  clear h
  go_enter Try.func8, Try.ntmps8
  go_wp2_with fail
  refine (none_call w p H.out).mono ?_
  rintro e w1 ⟨rfl, rfl⟩
  go_wp2_with fail
  go_ret2
  exact ⟨rfl, rfl⟩
theorem asked_call (w : World) (p : Value) (h : NoNet w p) : Calls Try.prog 9 #[p] w fun e w' => e = .returned (.int .i64 0) ∧ w = w' := by
  have H := Lib.hid h
  clear h
  go_enter Try.func9, Try.ntmps9
  go_wp2_with fail
  refine (none_call w p H.out).mono ?_
  rintro e w1 ⟨rfl, rfl⟩
  go_wp2_with fail
  go_ret
  exact ⟨rfl, rfl⟩

set_option maxHeartbeats 1000000 in
theorem nobody_any (k a b : Int) (s : ByteArray) (w : World) :
    Calls Try.prog 3 #[.agg #[.int .i64 k, .string s, .int .i64 a, .int .i64 b]] w fun e w' => e = .returned (.bool true) ∧ Below w.heap.size w w' := by
  have e1 : (w.alloc (.cells #[.int .i64 k, .string s, .int .i64 a, .int .i64 b] 23)).heap.size = w.heap.size + 1 := by simp
  have e2 : ((w.alloc (.cells #[.int .i64 k, .string s, .int .i64 a, .int .i64 b] 23)).alloc (.cells #[.map none, .slice none 0 0, .int .i64 0] 28)).heap.size = w.heap.size + 2 := by simp
  obtain ⟨W3, hW3⟩ : ∃ W, W = ((w.alloc (.cells #[.int .i64 k, .string s, .int .i64 a, .int .i64 b] 23)).alloc (.cells #[.map none, .slice none 0 0, .int .i64 0] 28)).alloc (.cells #[.pointer none, .pointer (some ⟨w.heap.size + 1, 0, none⟩)] 24) := ⟨_, rfl⟩
  have hb : Below w.heap.size w W3 := by rw [hW3]; exact (((Below.refl _ w).alloc (Nat.le_refl _) _).alloc (by rw [e1]; omega) _).alloc (by rw [e2]; omega) _
  have h0 : W3.heap[w.heap.size]? = some (.cells #[.int .i64 k, .string s, .int .i64 a, .int .i64 b] 23 (0, 0)) := by
    rw [hW3, heap_alloc_old _ _ (by rw [e2]; omega), heap_alloc_old _ _ (by rw [e1]; omega)]
    exact heap_alloc_new w _
  have h1 : W3.heap[w.heap.size + 1]? = some (.cells #[.map none, .slice none 0 0, .int .i64 0] 28 (0, 0)) := by
    rw [hW3, heap_alloc_old _ _ (by rw [e2]; omega)]
    have := heap_alloc_new (w.alloc (.cells #[.int .i64 k, .string s, .int .i64 a, .int .i64 b] 23)) (.cells #[.map none, .slice none 0 0, .int .i64 0] 28)
    rw [e1] at this
    exact this
  have h2 : W3.heap[w.heap.size + 2]? = some (.cells #[.pointer none, .pointer (some ⟨w.heap.size + 1, 0, none⟩)] 24 (0, 0)) := by
    rw [hW3]
    have := heap_alloc_new ((w.alloc (.cells #[.int .i64 k, .string s, .int .i64 a, .int .i64 b] 23)).alloc (.cells #[.map none, .slice none 0 0, .int .i64 0] 28)) (.cells #[.pointer none, .pointer (some ⟨w.heap.size + 1, 0, none⟩)] 24)
    rw [e2] at this
    exact this
  have HB := Lib.hid hb
  have N0 : Hid (NoNet W3 (.pointer none)) := Or.inl rfl
  have N1 : Hid (NoNet W3 (.pointer (some ⟨w.heap.size + 1, 0, none⟩))) := Or.inr ⟨_, rfl, h1⟩
  have c1 := (cell_at h0 1).trans rfl
  have c2 := (cell_at h0 2).trans rfl
  have c3 := (cell_at h0 3).trans rfl
  have p0 := (cell_at h2 0).trans rfl
  have p1 := (cell_at h2 1).trans rfl
  have HW3 := Lib.hid hW3
  clear e1 e2 hb h0 h1 h2 hW3
  go_enter Try.func3, Try.ntmps3
  go_wp2_with fail
  change Code.wp _ _ _ _ (((w.alloc (.cells #[.int .i64 k, .string s, .int .i64 a, .int .i64 b] 23)).alloc (.cells #[.map none, .slice none 0 0, .int .i64 0] 28)).alloc (.cells #[.pointer none, .pointer (some ⟨w.heap.size + 1, 0, none⟩)] 24))
  rw [← HW3.out]
  go_loopw [13] (fun t13 wr => ∃ j : Nat, t13 = .int .i64 j ∧ j ≤ 2 ∧ wr = W3) (fun t13 _ => 2 - (intOf t13).toNat)
  case atStart => exact ⟨0, rfl, by omega, rfl⟩
  case round =>
    obtain ⟨j, rfl, hj, rfl⟩ := hrel
    rcases (by omega : j = 0 ∨ j = 1 ∨ j = 2) with rfl | rfl | rfl
    · go_wp2_with fail
      refine (size_call _ _ s N0.out).mono ?_
      rintro e w1 ⟨rfl, rfl⟩
      go_wp2_with fail
      refine (get_call _ _ s a b N0.out).mono ?_
      rintro e w1 ⟨rfl, rfl⟩
      go_wp2_with fail
      refine (asked_call _ _ N0.out).mono ?_
      rintro e w1 ⟨rfl, rfl⟩
      go_wp2_with fail
      exact ⟨⟨1, rfl, by omega, trivial⟩, by simp [intOf]⟩
    · go_wp2_with fail
      refine (size_call _ _ s N1.out).mono ?_
      rintro e w1 ⟨rfl, rfl⟩
      go_wp2_with fail
      refine (get_call _ _ s a b N1.out).mono ?_
      rintro e w1 ⟨rfl, rfl⟩
      go_wp2_with fail
      refine (asked_call _ _ N1.out).mono ?_
      rintro e w1 ⟨rfl, rfl⟩
      go_wp2_with fail
      exact ⟨⟨2, rfl, by omega, trivial⟩, by simp [intOf]⟩
    · go_wp2_with fail
      go_ret
      exact ⟨rfl, HB.out⟩
end Go.Proofs.Ytbldognffppeiaa
