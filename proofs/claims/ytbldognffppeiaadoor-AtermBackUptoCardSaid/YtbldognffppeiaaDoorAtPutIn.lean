/- Put's function for an input, walked. -/
import Derived.Test.YtbldognffppeiaaDoorAtPutFns
import Derived.Test.YtbldognffppeiaaDoorAtRefText
namespace Go.Proofs.YtbldognffppeiaaDoor
open Go.RowKit Quo Go.Sort
set_option linter.unusedSimpArgs false
set_option linter.unusedVariables false
theorem quoteI {s : ByteArray} (hs : s.size ≤ 1048576) {w : World} (hT : Tabs w) : ∃ q : ByteArray, Hid (q = tx (quoS s)) ∧ q.size ≤ 2097154 ∧ Hid (∀ W : World, Below w.heap.size w W → ∀ d os, Calls Tryd.prog 8 #[.string s] (grow (redrawn W d) os) fun e w'' => e = .returned (.string q) ∧ ∃ p : Regrown, w'' = grow (redrawn W p.d) p.os) :=
  ⟨_, rfl, by rw [tx_size]; exact quoS_length s hs, fun W hb d os => Calls.regrown_of (quote_any s _ (hT.below (hb.trans ((below_regrown W d os).mono hb.size))) (by omega))⟩
theorem listI {A : Option Addr} {l : List ByteArray} {c n : Nat} (hn : n = l.length) (hl : l.length ≤ 1024) (hs : ∀ s ∈ l, s.size ≤ 1048576) {w : World} (hT : Tabs w) (h : StrsAt w A l) : ∃ q : ByteArray, Hid (q = tx (listD l)) ∧ q.size ≤ 2147486722 ∧ Hid (∀ W : World, Below w.heap.size w W → ∀ d os, Calls Tryd.prog 27 #[.slice A n c, .func (.func 8) #[] #[]] (grow (redrawn W d) os) fun e w'' => e = .returned (.string q) ∧ ∃ p : Regrown, w'' = grow (redrawn W p.d) p.os) :=
  ⟨_, rfl, by rw [tx_size]; exact Nat.le_trans (listD_length l 1024 hl hs) (by omega), fun W hb d os => Calls.regrown_of (by rw [hn]; exact listI_any A l c hl hs _ (hT.below (hb.trans ((below_regrown W d os).mono hb.size))) (h.below (hb.trans ((below_regrown W d os).mono hb.size))))⟩
theorem in_step {q1 q2 : ByteArray} {x : ByteArray × List ByteArray} (h1 : q1 = tx (quoS x.1)) (h2 : q2 = tx (listD x.2)) : (⟨#[40]⟩ : ByteArray) ++ q1 ++ ⟨#[44]⟩ ++ q2 ++ ⟨#[41]⟩ = tx (inD x) := by
  rw [h1, h2, c40, c41, c44]
  simp only [tx_app]
  rfl
set_option maxHeartbeats 2000000 in
set_option maxRecDepth 1000000 in
theorem put2_any (x : ByteArray × List ByteArray) (A : Option Addr) (n c : Nat) (hn : n = x.2.length) (hl : x.2.length ≤ 1024) (hz : x.1.size ≤ 1048576) (hs : ∀ s ∈ x.2, s.size ≤ 1048576) (w : World) (hT : Tabs w) (h : StrsAt w A x.2) : Calls Tryd.prog 26 #[.agg #[.string x.1, .slice A n c]] w fun e w' => e = .returned (.string (tx (inD x))) ∧ Below w.heap.size w w' := by
  obtain ⟨s1, hs1, hs1z, HC1⟩ := quoteI hz hT
  obtain ⟨s2, hs2, hs2z, HC2⟩ := listI (c := c) hn hl hs hT h
  have HB : Hid (Below w.heap.size w (w.alloc (.cells #[.string x.1, .slice A n c] 61))) := (Below.refl _ w).alloc (Nat.le_refl _) _
  have u0 : (w.alloc (.cells #[.string x.1, .slice A n c] 61)).cell? ⟨w.heap.size, 0, none⟩ = some (.string x.1) := (Blk.new w 61 _).cell 0
  have u1 : (w.alloc (.cells #[.string x.1, .slice A n c] 61)).cell? ⟨w.heap.size, 1, none⟩ = some (.slice A n c) := (Blk.new w 61 _).cell 1
  have e1 : ¬ 9223372036854775807 < 1 + s1.size := by omega
  have e2 : ¬ 9223372036854775807 < 1 + s1.size + 1 := by omega
  have e3 : ¬ 9223372036854775807 < 1 + s1.size + 1 + s2.size := by omega
  have e4 : ¬ 9223372036854775807 < 1 + s1.size + 1 + s2.size + 1 := by omega
  clear hT h hs hl hz hn
  go_enter Tryd.func26, Tryd.ntmps26
  go_upto_region 1 with (fail)
  have C1 := HC1.out _ HB.out
  have C2 := HC2.out _ HB.out
  generalize w.alloc (.cells #[.string x.1, .slice A n c] 61) = W6 at *
  have k0 := cell_regrown u0
  have k1 := cell_regrown u1
  refine wp_region_quiet_below (by kernel_rfl) (by kernel_rfl) ?_
  repeat (quiet_step (first | with_reducible exact C1 _ _ | with_reducible exact C2 _ _))
  refine wpQuiet_nil ?_
  intro _ hw'
  obtain ⟨⟨dq, osq⟩, hw''⟩ := hw'
  subst hw''
  go_wp2_with fail
  go_ret
  exact ⟨congrArg (fun y => Ending.returned (.string y)) (in_step hs1.out hs2.out), HB.out.trans ((below_regrown W6 dq osq).mono HB.out.size)⟩
end Go.Proofs.YtbldognffppeiaaDoor
