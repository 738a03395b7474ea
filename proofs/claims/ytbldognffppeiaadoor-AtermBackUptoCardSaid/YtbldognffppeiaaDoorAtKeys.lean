/- Lists of structs in memory, and whether their first fields rise. Printed by wip/gen/gen_rises.py. -/
import Derived.Test.YtbldognffppeiaaDoorAtRises
namespace Go.Proofs.YtbldognffppeiaaDoor
open Go.RowKit
set_option linter.unusedSimpArgs false
set_option linter.unusedVariables false
def OutsAt (w : World) (A : Option Addr) (l : List (ByteArray × ByteArray × ByteArray)) : Prop := ∀ (j : Nat) (x : ByteArray × ByteArray × ByteArray), l[j]? = some x → ∃ g o, A = some ⟨g, o, none⟩ ∧ w.cell? ⟨g, o + j * 3, none⟩ = some (.string x.1) ∧ w.cell? ⟨g, o + j * 3 + 1, none⟩ = some (.string x.2.1) ∧ w.cell? ⟨g, o + j * 3 + 2, none⟩ = some (.string x.2.2)
def PairsAt (w : World) (A : Option Addr) (l : List (ByteArray × ByteArray)) : Prop := ∀ (j : Nat) (x : ByteArray × ByteArray), l[j]? = some x → ∃ g o, A = some ⟨g, o, none⟩ ∧ w.cell? ⟨g, o + j * 2, none⟩ = some (.string x.1) ∧ w.cell? ⟨g, o + j * 2 + 1, none⟩ = some (.string x.2)
def InsAt (w : World) (A : Option Addr) (l : List (ByteArray × List ByteArray)) : Prop := ∀ (j : Nat) (x : ByteArray × List ByteArray), l[j]? = some x → ∃ g o An cn, A = some ⟨g, o, none⟩ ∧ w.cell? ⟨g, o + j * 2, none⟩ = some (.string x.1) ∧ w.cell? ⟨g, o + j * 2 + 1, none⟩ = some (.slice An x.2.length cn) ∧ x.2.length ≤ cn ∧ cn ≤ maxLen ∧ (StrsAt w An x.2 ∧ (An = none → x.2.length = 0 ∧ cn = 0))
theorem OutsAt.below {w w1 : World} {A : Option Addr} {l : List (ByteArray × ByteArray × ByteArray)} (h : OutsAt w A l) (hb : Below w.heap.size w w1) : OutsAt w1 A l := fun j x hj => by
  obtain ⟨g, o, h1, h2, h3, h4⟩ := h j x hj
  exact ⟨g, o, h1, (hb.cell (World.block_lt_of_cell? w _ h2)).trans h2, (hb.cell (World.block_lt_of_cell? w _ h3)).trans h3, (hb.cell (World.block_lt_of_cell? w _ h4)).trans h4⟩
theorem PairsAt.below {w w1 : World} {A : Option Addr} {l : List (ByteArray × ByteArray)} (h : PairsAt w A l) (hb : Below w.heap.size w w1) : PairsAt w1 A l := fun j x hj => by
  obtain ⟨g, o, h1, h2, h3⟩ := h j x hj
  exact ⟨g, o, h1, (hb.cell (World.block_lt_of_cell? w _ h2)).trans h2, (hb.cell (World.block_lt_of_cell? w _ h3)).trans h3⟩
theorem InsAt.below {w w1 : World} {A : Option Addr} {l : List (ByteArray × List ByteArray)} (h : InsAt w A l) (hb : Below w.heap.size w w1) : InsAt w1 A l := fun j x hj => by
  obtain ⟨g, o, An, cn, h1, h2, h3, h4, h5, h6⟩ := h j x hj
  exact ⟨g, o, An, cn, h1, (hb.cell (World.block_lt_of_cell? w _ h2)).trans h2, (hb.cell (World.block_lt_of_cell? w _ h3)).trans h3, h4, h5, h6.1.below hb, h6.2⟩
theorem map_at {α : Type} {l : List α} {f : α → ByteArray} {k : Nat} {x : α} (h : l[k]? = some x) : (l.map f)[k]? = some (f x) := by rw [List.getElem?_map, h]; rfl
set_option maxHeartbeats 1000000 in
theorem key_outs (s : ByteArray) (s1 s2 : ByteArray) (w : World) : Calls Tryd.prog 36 #[.agg #[.string s, .string s1, .string s2]] w fun e w' => e = .returned (.string s) ∧ Below w.heap.size w w' := by
  go_enter Tryd.func36, Tryd.ntmps36
  go_wp2_with fail
  go_ret
  exact ⟨rfl, (Below.refl _ _).alloc (Nat.le_refl _) _⟩
set_option maxHeartbeats 4000000 in
set_option maxRecDepth 100000 in
theorem rises_outs (A : Option Addr) (l : List (ByteArray × ByteArray × ByteArray)) (c : Nat) (hl : l.length ≤ maxLen) (w : World) (h : OutsAt w A l) :
    Calls Tryd.prog 35 #[.slice A l.length c, .func (.func 36) #[] #[]] w fun e w' => e = .returned (.bool (rises (l.map (·.1)))) ∧ Below w.heap.size w w' := by
  have H := Lib.hid h
  obtain ⟨n, hn⟩ : ∃ n, Hid (n = l.length) := ⟨_, rfl⟩
  rw [← hn.out] at hl ⊢
  unfold maxLen at hl
  have hB0 := Lib.hid (Below.refl w.heap.size w)
  clear h
  go_enter Tryd.func35, Tryd.ntmps35
  go_wp2_with fail
  go_loopw [5] (fun t3 wr => ∃ k : Nat, t3 = .int .i64 k ∧ 1 ≤ k ∧ (k ≤ n ∨ k = 1) ∧ Hid (Below w.heap.size w wr) ∧ Hid (risesK (l.map (·.1)) k = true)) (fun t3 _ => n - (intOf t3).toNat)
  case atStart => exact ⟨1, rfl, by omega, .inr rfl, hB0, rfl⟩
  case round =>
    clear hB0
    obtain ⟨k, rfl, hk1, hk2, HB, hr⟩ := hrel
    by_cases hlt : k < n
    · obtain ⟨x, hx⟩ : ∃ x, Hid (l[k]? = some x) := ⟨_, List.getElem?_eq_getElem (by rw [← hn.out]; exact hlt)⟩
      obtain ⟨y, hy⟩ : ∃ y, Hid (l[k - 1]? = some y) := ⟨_, List.getElem?_eq_getElem (by rw [← hn.out]; omega)⟩
      obtain ⟨g, o, rfl, a0, a1, a2⟩ := H.out k x hx.out
      obtain ⟨g2, o2, e2, b0, b1, b2⟩ := H.out (k - 1) y hy.out
      injection e2 with e2
      injection e2 with e3 e4
      subst e3 e4
      have hS : Hid (∀ W, Below w.heap.size w W → W.cell? ⟨g, o + k * 3, none⟩ = some (.string x.1) ∧ W.cell? ⟨g, o + k * 3 + 1, none⟩ = some (.string x.2.1) ∧ W.cell? ⟨g, o + k * 3 + 2, none⟩ = some (.string x.2.2) ∧ W.cell? ⟨g, o + (k - 1) * 3, none⟩ = some (.string y.1) ∧ W.cell? ⟨g, o + (k - 1) * 3 + 1, none⟩ = some (.string y.2.1) ∧ W.cell? ⟨g, o + (k - 1) * 3 + 2, none⟩ = some (.string y.2.2)) := fun W hb => ⟨(hb.cell (World.block_lt_of_cell? w _ a0)).trans a0, (hb.cell (World.block_lt_of_cell? w _ a1)).trans a1, (hb.cell (World.block_lt_of_cell? w _ a2)).trans a2, (hb.cell (World.block_lt_of_cell? w _ b0)).trans b0, (hb.cell (World.block_lt_of_cell? w _ b1)).trans b1, (hb.cell (World.block_lt_of_cell? w _ b2)).trans b2⟩
      clear a0 a1 a2 b0 b1 b2
      obtain ⟨a0, a1, a2, b0, b1, b2⟩ := hS.out wr HB.out
      have hstep := Lib.hid (risesK_step (l.map (·.1)) k x.1 y.1 hk1 (map_at hx.out) (map_at hy.out) hr.out)
      have d1 : (k : Int) < (n : Int) := by omega
      have d2 : (0 : Int) ≤ (k : Int) := by omega
      have d3 : (1 : Int) ≤ (k : Int) := by omega
      have d4 : (0 : Int) ≤ (k : Int) - 1 := by omega
      have d5 : (k : Int) - 1 < (n : Int) := by omega
      cases hle : leqS x.1 y.1
      · have hle' : (Op.bytesLess x.1.toList y.1.toList || x.1.toList == y.1.toList) = false := hle
        rw [hle] at hstep
        go_upto_region 4 with (fail)
        have hw1 : IntKind.i64.wrap ((k : Int) - 1) = (k : Int) - 1 := IntWalk.i64_in _ (by omega)
        have hw2 : ((k : Int) - 1).toNat = k - 1 := by omega
        have hbd : Below w.heap.size w wr.drew := below_drewN' HB.out 1
        go_region_held3 (fun W => W.cell? ⟨g, o + k * 3, none⟩ = some (.string x.1) ∧ W.cell? ⟨g, o + k * 3 + 1, none⟩ = some (.string x.2.1) ∧ W.cell? ⟨g, o + k * 3 + 2, none⟩ = some (.string x.2.2) ∧ W.cell? ⟨g, o + (k - 1) * 3, none⟩ = some (.string y.1) ∧ W.cell? ⟨g, o + (k - 1) * 3 + 1, none⟩ = some (.string y.2.1) ∧ W.cell? ⟨g, o + (k - 1) * 3 + 2, none⟩ = some (.string y.2.2)) (first | go_keep | exact hS.out _ (by assumption)) ((go_at_call 36; refine (key_outs _ _ _ _).mono ?_; rintro e w1 ⟨rfl, hb⟩; have HBx := below_step' (by assumption) hb; clear hb))
        clear hw1 hw2
        all_goals
          go_wp2_with fail
          refine ⟨⟨k + 1, by first | rfl | simp, by omega, .inl (by omega), Lib.hid HBx, hstep⟩, by simp [intOf]; omega⟩
      · have hle' : (Op.bytesLess x.1.toList y.1.toList || x.1.toList == y.1.toList) = true := hle
        rw [hle] at hstep
        have hf : Hid (rises (l.map (·.1)) = false) := risesK_false _ (k + 1) hstep.out _ (by rw [List.length_map, ← hn.out]; omega)
        go_upto_region 4 with (fail)
        have hw1 : IntKind.i64.wrap ((k : Int) - 1) = (k : Int) - 1 := IntWalk.i64_in _ (by omega)
        have hw2 : ((k : Int) - 1).toNat = k - 1 := by omega
        have hbd : Below w.heap.size w wr.drew := below_drewN' HB.out 1
        go_region_held3 (fun W => W.cell? ⟨g, o + k * 3, none⟩ = some (.string x.1) ∧ W.cell? ⟨g, o + k * 3 + 1, none⟩ = some (.string x.2.1) ∧ W.cell? ⟨g, o + k * 3 + 2, none⟩ = some (.string x.2.2) ∧ W.cell? ⟨g, o + (k - 1) * 3, none⟩ = some (.string y.1) ∧ W.cell? ⟨g, o + (k - 1) * 3 + 1, none⟩ = some (.string y.2.1) ∧ W.cell? ⟨g, o + (k - 1) * 3 + 2, none⟩ = some (.string y.2.2)) (first | go_keep | exact hS.out _ (by assumption)) ((go_at_call 36; refine (key_outs _ _ _ _).mono ?_; rintro e w1 ⟨rfl, hb⟩; have HBx := below_step' (by assumption) hb; clear hb))
        clear hw1 hw2
        all_goals
          go_wp2_with fail
          go_ret
          exact ⟨ret_bool hf.out.symm, HBx⟩
    · have hf : Hid (rises (l.map (·.1)) = true) := by
        have h := hr.out
        rcases hk2 with hk2 | hk2
        · obtain rfl : k = n := by omega
          rw [hn.out] at h
          unfold rises
          rw [List.length_map]
          exact h
        · subst hk2
          unfold rises
          rw [List.length_map]
          have : l.length = 0 ∨ l.length = 1 := by have := hn.out; omega
          rcases this with e | e <;> rw [e] <;> rfl
      have d1 : ¬ (k : Int) < (n : Int) := by omega
      go_wp2_with fail
      go_ret
      exact ⟨ret_bool hf.out.symm, HB.out⟩
set_option maxHeartbeats 1000000 in
theorem key_ins (s : ByteArray) (An : Option Addr) (n c : Nat) (w : World) : Calls Tryd.prog 38 #[.agg #[.string s, .slice An n c]] w fun e w' => e = .returned (.string s) ∧ Below w.heap.size w w' := by
  go_enter Tryd.func38, Tryd.ntmps38
  go_wp2_with fail
  go_ret
  exact ⟨rfl, (Below.refl _ _).alloc (Nat.le_refl _) _⟩
set_option maxHeartbeats 4000000 in
set_option maxRecDepth 100000 in
theorem rises_ins (A : Option Addr) (l : List (ByteArray × List ByteArray)) (c : Nat) (hl : l.length ≤ maxLen) (w : World) (h : InsAt w A l) :
    Calls Tryd.prog 37 #[.slice A l.length c, .func (.func 38) #[] #[]] w fun e w' => e = .returned (.bool (rises (l.map (·.1)))) ∧ Below w.heap.size w w' := by
  have H := Lib.hid h
  obtain ⟨n, hn⟩ : ∃ n, Hid (n = l.length) := ⟨_, rfl⟩
  rw [← hn.out] at hl ⊢
  unfold maxLen at hl
  have hB0 := Lib.hid (Below.refl w.heap.size w)
  clear h
  go_enter Tryd.func37, Tryd.ntmps37
  go_wp2_with fail
  go_loopw [5] (fun t3 wr => ∃ k : Nat, t3 = .int .i64 k ∧ 1 ≤ k ∧ (k ≤ n ∨ k = 1) ∧ Hid (Below w.heap.size w wr) ∧ Hid (risesK (l.map (·.1)) k = true)) (fun t3 _ => n - (intOf t3).toNat)
  case atStart => exact ⟨1, rfl, by omega, .inr rfl, hB0, rfl⟩
  case round =>
    clear hB0
    obtain ⟨k, rfl, hk1, hk2, HB, hr⟩ := hrel
    by_cases hlt : k < n
    · obtain ⟨x, hx⟩ : ∃ x, Hid (l[k]? = some x) := ⟨_, List.getElem?_eq_getElem (by rw [← hn.out]; exact hlt)⟩
      obtain ⟨y, hy⟩ : ∃ y, Hid (l[k - 1]? = some y) := ⟨_, List.getElem?_eq_getElem (by rw [← hn.out]; omega)⟩
      obtain ⟨g, o, An, cn, rfl, a0, a1, _, _, _⟩ := H.out k x hx.out
      obtain ⟨g2, o2, Bn, dn, e2, b0, b1, _, _, _⟩ := H.out (k - 1) y hy.out
      injection e2 with e2
      injection e2 with e3 e4
      subst e3 e4
      have hS : Hid (∀ W, Below w.heap.size w W → W.cell? ⟨g, o + k * 2, none⟩ = some (.string x.1) ∧ W.cell? ⟨g, o + k * 2 + 1, none⟩ = some (.slice An x.2.length cn) ∧ W.cell? ⟨g, o + (k - 1) * 2, none⟩ = some (.string y.1) ∧ W.cell? ⟨g, o + (k - 1) * 2 + 1, none⟩ = some (.slice Bn y.2.length dn)) := fun W hb => ⟨(hb.cell (World.block_lt_of_cell? w _ a0)).trans a0, (hb.cell (World.block_lt_of_cell? w _ a1)).trans a1, (hb.cell (World.block_lt_of_cell? w _ b0)).trans b0, (hb.cell (World.block_lt_of_cell? w _ b1)).trans b1⟩
      clear a0 a1 b0 b1
      obtain ⟨a0, a1, b0, b1⟩ := hS.out wr HB.out
      have hstep := Lib.hid (risesK_step (l.map (·.1)) k x.1 y.1 hk1 (map_at hx.out) (map_at hy.out) hr.out)
      have d1 : (k : Int) < (n : Int) := by omega
      have d2 : (0 : Int) ≤ (k : Int) := by omega
      have d3 : (1 : Int) ≤ (k : Int) := by omega
      have d4 : (0 : Int) ≤ (k : Int) - 1 := by omega
      have d5 : (k : Int) - 1 < (n : Int) := by omega
      cases hle : leqS x.1 y.1
      · have hle' : (Op.bytesLess x.1.toList y.1.toList || x.1.toList == y.1.toList) = false := hle
        rw [hle] at hstep
        go_upto_region 4 with (fail)
        have hw1 : IntKind.i64.wrap ((k : Int) - 1) = (k : Int) - 1 := IntWalk.i64_in _ (by omega)
        have hw2 : ((k : Int) - 1).toNat = k - 1 := by omega
        have hbd : Below w.heap.size w wr.drew := below_drewN' HB.out 1
        go_region_held3 (fun W => W.cell? ⟨g, o + k * 2, none⟩ = some (.string x.1) ∧ W.cell? ⟨g, o + k * 2 + 1, none⟩ = some (.slice An x.2.length cn) ∧ W.cell? ⟨g, o + (k - 1) * 2, none⟩ = some (.string y.1) ∧ W.cell? ⟨g, o + (k - 1) * 2 + 1, none⟩ = some (.slice Bn y.2.length dn)) (first | go_keep | exact hS.out _ (by assumption)) ((go_at_call 38; refine (key_ins _ _ _ _ _).mono ?_; rintro e w1 ⟨rfl, hb⟩; have HBx := below_step' (by assumption) hb; clear hb))
        clear hw1 hw2
        all_goals
          go_wp2_with fail
          refine ⟨⟨k + 1, by first | rfl | simp, by omega, .inl (by omega), Lib.hid HBx, hstep⟩, by simp [intOf]; omega⟩
      · have hle' : (Op.bytesLess x.1.toList y.1.toList || x.1.toList == y.1.toList) = true := hle
        rw [hle] at hstep
        have hf : Hid (rises (l.map (·.1)) = false) := risesK_false _ (k + 1) hstep.out _ (by rw [List.length_map, ← hn.out]; omega)
        go_upto_region 4 with (fail)
        have hw1 : IntKind.i64.wrap ((k : Int) - 1) = (k : Int) - 1 := IntWalk.i64_in _ (by omega)
        have hw2 : ((k : Int) - 1).toNat = k - 1 := by omega
        have hbd : Below w.heap.size w wr.drew := below_drewN' HB.out 1
        go_region_held3 (fun W => W.cell? ⟨g, o + k * 2, none⟩ = some (.string x.1) ∧ W.cell? ⟨g, o + k * 2 + 1, none⟩ = some (.slice An x.2.length cn) ∧ W.cell? ⟨g, o + (k - 1) * 2, none⟩ = some (.string y.1) ∧ W.cell? ⟨g, o + (k - 1) * 2 + 1, none⟩ = some (.slice Bn y.2.length dn)) (first | go_keep | exact hS.out _ (by assumption)) ((go_at_call 38; refine (key_ins _ _ _ _ _).mono ?_; rintro e w1 ⟨rfl, hb⟩; have HBx := below_step' (by assumption) hb; clear hb))
        clear hw1 hw2
        all_goals
          go_wp2_with fail
          go_ret
          exact ⟨ret_bool hf.out.symm, HBx⟩
    · have hf : Hid (rises (l.map (·.1)) = true) := by
        have h := hr.out
        rcases hk2 with hk2 | hk2
        · obtain rfl : k = n := by omega
          rw [hn.out] at h
          unfold rises
          rw [List.length_map]
          exact h
        · subst hk2
          unfold rises
          rw [List.length_map]
          have : l.length = 0 ∨ l.length = 1 := by have := hn.out; omega
          rcases this with e | e <;> rw [e] <;> rfl
      have d1 : ¬ (k : Int) < (n : Int) := by omega
      go_wp2_with fail
      go_ret
      exact ⟨ret_bool hf.out.symm, HB.out⟩
set_option maxHeartbeats 1000000 in
theorem key_pairs (s : ByteArray) (s1 : ByteArray) (w : World) : Calls Tryd.prog 41 #[.agg #[.string s, .string s1]] w fun e w' => e = .returned (.string s) ∧ Below w.heap.size w w' := by
  go_enter Tryd.func41, Tryd.ntmps41
  go_wp2_with fail
  go_ret
  exact ⟨rfl, (Below.refl _ _).alloc (Nat.le_refl _) _⟩
set_option maxHeartbeats 4000000 in
set_option maxRecDepth 100000 in
theorem rises_pairs (A : Option Addr) (l : List (ByteArray × ByteArray)) (c : Nat) (hl : l.length ≤ maxLen) (w : World) (h : PairsAt w A l) :
    Calls Tryd.prog 40 #[.slice A l.length c, .func (.func 41) #[] #[]] w fun e w' => e = .returned (.bool (rises (l.map (·.1)))) ∧ Below w.heap.size w w' := by
  have H := Lib.hid h
  obtain ⟨n, hn⟩ : ∃ n, Hid (n = l.length) := ⟨_, rfl⟩
  rw [← hn.out] at hl ⊢
  unfold maxLen at hl
  have hB0 := Lib.hid (Below.refl w.heap.size w)
  clear h
  go_enter Tryd.func40, Tryd.ntmps40
  go_wp2_with fail
  go_loopw [5] (fun t3 wr => ∃ k : Nat, t3 = .int .i64 k ∧ 1 ≤ k ∧ (k ≤ n ∨ k = 1) ∧ Hid (Below w.heap.size w wr) ∧ Hid (risesK (l.map (·.1)) k = true)) (fun t3 _ => n - (intOf t3).toNat)
  case atStart => exact ⟨1, rfl, by omega, .inr rfl, hB0, rfl⟩
  case round =>
    clear hB0
    obtain ⟨k, rfl, hk1, hk2, HB, hr⟩ := hrel
    by_cases hlt : k < n
    · obtain ⟨x, hx⟩ : ∃ x, Hid (l[k]? = some x) := ⟨_, List.getElem?_eq_getElem (by rw [← hn.out]; exact hlt)⟩
      obtain ⟨y, hy⟩ : ∃ y, Hid (l[k - 1]? = some y) := ⟨_, List.getElem?_eq_getElem (by rw [← hn.out]; omega)⟩
      obtain ⟨g, o, rfl, a0, a1⟩ := H.out k x hx.out
      obtain ⟨g2, o2, e2, b0, b1⟩ := H.out (k - 1) y hy.out
      injection e2 with e2
      injection e2 with e3 e4
      subst e3 e4
      have hS : Hid (∀ W, Below w.heap.size w W → W.cell? ⟨g, o + k * 2, none⟩ = some (.string x.1) ∧ W.cell? ⟨g, o + k * 2 + 1, none⟩ = some (.string x.2) ∧ W.cell? ⟨g, o + (k - 1) * 2, none⟩ = some (.string y.1) ∧ W.cell? ⟨g, o + (k - 1) * 2 + 1, none⟩ = some (.string y.2)) := fun W hb => ⟨(hb.cell (World.block_lt_of_cell? w _ a0)).trans a0, (hb.cell (World.block_lt_of_cell? w _ a1)).trans a1, (hb.cell (World.block_lt_of_cell? w _ b0)).trans b0, (hb.cell (World.block_lt_of_cell? w _ b1)).trans b1⟩
      clear a0 a1 b0 b1
      obtain ⟨a0, a1, b0, b1⟩ := hS.out wr HB.out
      have hstep := Lib.hid (risesK_step (l.map (·.1)) k x.1 y.1 hk1 (map_at hx.out) (map_at hy.out) hr.out)
      have d1 : (k : Int) < (n : Int) := by omega
      have d2 : (0 : Int) ≤ (k : Int) := by omega
      have d3 : (1 : Int) ≤ (k : Int) := by omega
      have d4 : (0 : Int) ≤ (k : Int) - 1 := by omega
      have d5 : (k : Int) - 1 < (n : Int) := by omega
      cases hle : leqS x.1 y.1
      · have hle' : (Op.bytesLess x.1.toList y.1.toList || x.1.toList == y.1.toList) = false := hle
        rw [hle] at hstep
        go_upto_region 4 with (fail)
        have hw1 : IntKind.i64.wrap ((k : Int) - 1) = (k : Int) - 1 := IntWalk.i64_in _ (by omega)
        have hw2 : ((k : Int) - 1).toNat = k - 1 := by omega
        have hbd : Below w.heap.size w wr.drew := below_drewN' HB.out 1
        go_region_held3 (fun W => W.cell? ⟨g, o + k * 2, none⟩ = some (.string x.1) ∧ W.cell? ⟨g, o + k * 2 + 1, none⟩ = some (.string x.2) ∧ W.cell? ⟨g, o + (k - 1) * 2, none⟩ = some (.string y.1) ∧ W.cell? ⟨g, o + (k - 1) * 2 + 1, none⟩ = some (.string y.2)) (first | go_keep | exact hS.out _ (by assumption)) ((go_at_call 41; refine (key_pairs _ _ _).mono ?_; rintro e w1 ⟨rfl, hb⟩; have HBx := below_step' (by assumption) hb; clear hb))
        clear hw1 hw2
        all_goals
          go_wp2_with fail
          refine ⟨⟨k + 1, by first | rfl | simp, by omega, .inl (by omega), Lib.hid HBx, hstep⟩, by simp [intOf]; omega⟩
      · have hle' : (Op.bytesLess x.1.toList y.1.toList || x.1.toList == y.1.toList) = true := hle
        rw [hle] at hstep
        have hf : Hid (rises (l.map (·.1)) = false) := risesK_false _ (k + 1) hstep.out _ (by rw [List.length_map, ← hn.out]; omega)
        go_upto_region 4 with (fail)
        have hw1 : IntKind.i64.wrap ((k : Int) - 1) = (k : Int) - 1 := IntWalk.i64_in _ (by omega)
        have hw2 : ((k : Int) - 1).toNat = k - 1 := by omega
        have hbd : Below w.heap.size w wr.drew := below_drewN' HB.out 1
        go_region_held3 (fun W => W.cell? ⟨g, o + k * 2, none⟩ = some (.string x.1) ∧ W.cell? ⟨g, o + k * 2 + 1, none⟩ = some (.string x.2) ∧ W.cell? ⟨g, o + (k - 1) * 2, none⟩ = some (.string y.1) ∧ W.cell? ⟨g, o + (k - 1) * 2 + 1, none⟩ = some (.string y.2)) (first | go_keep | exact hS.out _ (by assumption)) ((go_at_call 41; refine (key_pairs _ _ _).mono ?_; rintro e w1 ⟨rfl, hb⟩; have HBx := below_step' (by assumption) hb; clear hb))
        clear hw1 hw2
        all_goals
          go_wp2_with fail
          go_ret
          exact ⟨ret_bool hf.out.symm, HBx⟩
    · have hf : Hid (rises (l.map (·.1)) = true) := by
        have h := hr.out
        rcases hk2 with hk2 | hk2
        · obtain rfl : k = n := by omega
          rw [hn.out] at h
          unfold rises
          rw [List.length_map]
          exact h
        · subst hk2
          unfold rises
          rw [List.length_map]
          have : l.length = 0 ∨ l.length = 1 := by have := hn.out; omega
          rcases this with e | e <;> rw [e] <;> rfl
      have d1 : ¬ (k : Int) < (n : Int) := by omega
      go_wp2_with fail
      go_ret
      exact ⟨ret_bool hf.out.symm, HB.out⟩
end Go.Proofs.YtbldognffppeiaaDoor
