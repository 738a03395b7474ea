/- DigestCounts, walked. -/
import Derived.Test.YtmaknbcfnigbmaaDoorWalkDistinct
import Derived.Test.YtmaknbcfnigbmaaDoorWalkSum
import Derived.Test.YtmaknbcfnigbmaaDoorRowsAppend
namespace Go.Proofs.YtmaknbcfnigbmaaDoor
open Go.RowKit Sig Go.Maps Go.Proofs.YtmaknbcfnigbmaaDoorW.PrintWords
set_option linter.unusedSimpArgs false
set_option linter.unusedVariables false
/-- The cells of rows laid end to end. -/
def flatC (rs : List (List UInt8)) : List Value := rs.flatMap Lib.byteCells
theorem flatC_append (a b : List (List UInt8)) : flatC (a ++ b) = flatC a ++ flatC b := by simp [flatC]
theorem flatC_one (a : List UInt8) : flatC [a] = Lib.byteCells a := by simp [flatC]
theorem flatC_get : ∀ (rs : List (List UInt8)) (i j : Nat) (row : List UInt8) (v : Value), (∀ r ∈ rs, r.length = 32) → rs[i]? = some row → (Lib.byteCells row)[j]? = some v → (flatC rs)[i * 32 + j]? = some v
  | [], i, j, row, v, _, h, _ => by simp at h
  | r :: rs, 0, j, row, v, hl, h, hj => by
    simp at h
    subst h
    have hlt := (List.getElem?_eq_some_iff.1 hj).1
    show (Lib.byteCells r ++ flatC rs)[0 * 32 + j]? = some v
    rw [List.getElem?_append_left (by omega)]
    simpa using hj
  | r :: rs, i + 1, j, row, v, hl, h, hj => by
    have h2 : rs[i]? = some row := by simpa using h
    have h3 := flatC_get rs i j row v (fun r hr => hl r (List.mem_cons_of_mem _ hr)) h2 hj
    have h4 : (Lib.byteCells r).length = 32 := by rw [Lib.byteCells_length]; exact hl r (by simp)
    show (Lib.byteCells r ++ flatC rs)[(i + 1) * 32 + j]? = some v
    rw [List.getElem?_append_right (by omega), h4]
    rw [show (i + 1) * 32 + j - 32 = i * 32 + j by omega]
    exact h3
theorem dnK_append (a b : List (List UInt8)) : ∀ i, i ≤ a.length → dnK (a ++ b) i = dnK a i
  | 0, _ => rfl
  | i + 1, h => by
    rw [dnK_succ, dnK_succ, dnK_append a b i (by omega), List.take_append_of_le_length (by omega), List.getD_eq_getElem?_getD, List.getElem?_append_left (by omega), List.getD_eq_getElem?_getD]
theorem dnK_extra (a b : List (List UInt8)) (h : ∀ x ∈ b, x ∈ a) : ∀ i, i ≤ b.length → dnK (a ++ b) (a.length + i) = dnK a a.length
  | 0, _ => dnK_append a b _ (Nat.le_refl _)
  | i + 1, hi => by
    rw [← Nat.add_assoc, dnK_succ, dnK_extra a b h i (by omega)]
    have h1 : (a ++ b).getD (a.length + i) [] = b[i] := by
      rw [List.getD_eq_getElem?_getD, List.getElem?_append_right (by omega), show a.length + i - a.length = i by omega, List.getElem?_eq_getElem (by omega)]
      rfl
    have h2 : ((a ++ b).take (a.length + i)).any (· == (a ++ b).getD (a.length + i) []) = true := by
      rw [h1, List.any_eq_true]
      refine ⟨b[i], ?_, by simp⟩
      rw [List.take_append, List.take_of_length_le (by omega)]
      exact List.mem_append_left _ (h _ (List.getElem_mem _))
    rw [h2]
    rfl
/-- An own row of arrays reads as rows. -/
theorem reads_own {W : World} {B g cap n : Nat} {rs : List (List UInt8)} (hl : ∀ r ∈ rs, r.length = 32) (h : W.ownsRow B 42 32 (.slice (some ⟨g, 0, none⟩) n cap) n (flatC rs)) : ReadsR W g 0 rs := by
  intro i row hr
  refine ⟨hl row (List.mem_of_getElem? hr), fun j v hj => ?_⟩
  have h1 := h.cells (g := g) rfl (i * 32 + j) v (flatC_get rs i j row v hl hr hj)
  rw [Addr.add_mid] at h1
  rw [Nat.zero_add]
  simpa using h1
theorem empty_sum : ((Sha.sum []).getD 0 0 = 227 ∧ (Sha.sum []).getD 31 0 = 85) ∧ (Sha.sum []).length = 32 := by decide +kernel
theorem below_grown {g : Nat} {w W W' : World} {row : Option Nat} (h : Below g w W) (k : W.grownBy W' row) (hr : ∀ b, row = some b → g ≤ b) (hg : g ≤ W.heap.size) : Below g w W' :=
  ⟨k.os.trans h.os, k.tape.trans h.tape, k.output.trans h.output, Nat.le_trans h.size k.size, fun i hi => (k.block i (by omega) (fun e => by have := hr i e.symm; omega)).trans (h.block i hi)⟩
theorem row_new (W : World) (row : List UInt8) : ∀ j u, (Lib.byteCells row)[j]? = some u → (W.alloc (.cells (cellsB row) 42)).cell? ((⟨W.heap.size, 0, none⟩ : Addr).add j) = some u := by
  intro j u hj
  rw [Addr.add_mid, Nat.zero_add, (Blk.new W 42 (cellsB row)).cell]
  simpa [cellsB, Lib.byteCells] using hj
theorem pick_at (z : Int) (n : Nat) (h1 : 1 ≤ n) (h2 : n ≤ 200) : ∃ q : Nat, q < n ∧ (wrap64 (z.tmod (n : Int) + (n : Int))).tmod (n : Int) = (q : Int) := by
  have hp : (0 : Int) < (n : Int) := by omega
  have a1 := Int.tmod_lt_of_pos z hp
  have a2 := Int.lt_tmod_of_pos z hp
  have hw : wrap64 (z.tmod (n : Int) + (n : Int)) = z.tmod (n : Int) + (n : Int) := by
    simp only [wrap64]
    omega
  rw [hw]
  have b1 := Int.tmod_lt_of_pos (z.tmod (n : Int) + (n : Int)) hp
  have b2 := Int.tmod_nonneg (n : Int) (show 0 ≤ z.tmod (n : Int) + (n : Int) by omega)
  exact ⟨((z.tmod (n : Int) + (n : Int)).tmod (n : Int)).toNat, by omega, by omega⟩
/-- What stands in the second loop's rounds. -/
def PState (rs es : List (List UInt8)) (v : Value) (w W : World) : Prop :=
  W.ownsRow w.heap.size 42 32 v (rs.length + es.length) (flatC (rs ++ es)) ∧ Below w.heap.size w W
theorem PState.below {rs es : List (List UInt8)} {v : Value} {w W W2 : World} (h : PState rs es v w W) (hb : Below W.heap.size W W2) : PState rs es v w W2 := ⟨own_below h.1 hb, below_step' h.2 hb⟩
theorem PState.next {rs es : List (List UInt8)} {v v' : Value} {w W W' : World} {row : List UInt8} (h : PState rs es v w W) (k : W'.ownsRow w.heap.size 42 32 v' (rs.length + es.length + 1) (flatC (rs ++ es) ++ Lib.byteCells row)) (hg : (W.alloc (.cells (cellsB row) 42)).grownBy W' v.ownBlock) : PState rs (es ++ [row]) v' w W' := by
  refine ⟨?_, below_grown (h.2.alloc h.2.size _) hg (fun b hb => (h.1.lt b hb).1) (by rw [World.size_alloc]; have := h.2.size; omega)⟩
  rw [List.length_append, ← List.append_assoc, flatC_append, flatC_one]
  exact k
/-- What stands in the first loop's rounds. -/
def CState (rs : List (List UInt8)) (v : Value) (i : Nat) (w W : World) : Prop :=
  W.ownsRow w.heap.size 42 32 v i (flatC (rs.take i)) ∧ Below w.heap.size w W
theorem CState.below {rs : List (List UInt8)} {v : Value} {i : Nat} {w W W2 : World} (h : CState rs v i w W) (hb : Below W.heap.size W W2) : CState rs v i w W2 := ⟨own_below h.1 hb, below_step' h.2 hb⟩
theorem CState.next {rs : List (List UInt8)} {v v' : Value} {i : Nat} {w W W' : World} {row : List UInt8} (h : CState rs v i w W) (hr : rs[i]? = some row) (k : W'.ownsRow w.heap.size 42 32 v' (i + 1) (flatC (rs.take i) ++ Lib.byteCells row)) (hg : (W.alloc (.cells (cellsB row) 42)).grownBy W' v.ownBlock) : CState rs v' (i + 1) w W' := by
  refine ⟨?_, below_grown (h.2.alloc h.2.size _) hg (fun b hb => (h.1.lt b hb).1) (by rw [World.size_alloc]; have := h.2.size; omega)⟩
  rw [List.take_add_one, hr, flatC_append]
  simpa [flatC] using k
set_option maxHeartbeats 4000000 in
set_option maxRecDepth 100000 in
theorem counts_some (rs : List (List UInt8)) (g o c : Nat) (hc : rs.length ≤ c) (zs : List Int) (B : Option Addr) (d : Nat) (hd : zs.length ≤ d) (h0 : rs ≠ []) (hn : rs.length ≤ 200) (hm : zs.length ≤ 200) (w : World) (hr : ReadsR w g o rs)
    (hz : ∀ j z, zs[j]? = some z → (Lit.int .i64 z).wf = true ∧ ∃ a, B = some a ∧ w.cell? (a.add j) = some (.int .i64 z)) (hCu : Cubes w) (hSq : Squares w) :
    Calls Tryd.prog 6 #[.slice (some ⟨g, o, none⟩) rs.length c, .slice B zs.length d] w fun e w' => e = .returned (.bool true) ∧ Below w.heap.size w w' := by
  have HR := Lib.hid hr
  have HZ := Lib.hid hz
  have HCu := Lib.hid hCu
  have HSq := Lib.hid hSq
  have hrl : Hid (∀ r ∈ rs, r.length = 32) := fun r hr1 => by
    obtain ⟨i, hi, e⟩ := List.mem_iff_getElem.1 hr1
    exact (hr i r (by rw [← e, List.getElem?_eq_getElem hi])).1
  have hpos : 1 ≤ rs.length := by
    rcases rs with _ | ⟨a, rs⟩
    · exact absurd rfl h0
    · simp
  have hn1 : ¬ ((200 : Int) < (rs.length : Int)) := by omega
  have hm1 : ¬ ((200 : Int) < (zs.length : Int)) := by omega
  obtain ⟨i0, hi, hz0, hz1, hz2⟩ := info_parts info42
  have HII := Lib.hid hi
  have H0 := Lib.hid hz0
  have H1 := Lib.hid hz1
  have H2 := Lib.hid hz2
  have cellsB_size32 : (Value.agg (cellsB (List.replicate 32 0))).cells.size = 32 := by simp [Value.cells, cellsB]
  clear hr hz hCu hSq h0 hi hz0 hz1 hz2
  go_enter Tryd.func6, Tryd.ntmps6
  go_wp2_with fail
  go_loopw [5, 6, 7] (fun t5 t6 t7 wr => ∃ (i : Nat) (v : Value), v = t5 ∧ t7 = .int .i64 i ∧ t6 = .int .i64 (dnK rs i) ∧ i ≤ rs.length ∧ Hid (CState rs v i w wr)) (fun _ _ t7 _ => rs.length - (intOf t7).toNat)
  case atStart => exact ⟨0, _, rfl, rfl, rfl, by omega, World.ownsRow_nil _ _ _ _, Below.refl _ _⟩
  case round =>
    obtain ⟨i, v, hv, rfl, rfl, hi, HS⟩ := hrel
    subst hv
    by_cases hlt : i < rs.length
    · obtain ⟨row, hrw⟩ : ∃ row, Hid (rs.getD i [] = row) := ⟨_, rfl⟩
      have hrow : rs[i]? = some row := by rw [← hrw.out, List.getD_eq_getElem?_getD, List.getElem?_eq_getElem hlt]; rfl
      have HI := Lib.hid hrow
      have h32 := Lib.hid (HR.out i row hrow).1
      have hi2 : (Tryd.prog.info? 41).map (·.size) = some (Lib.byteCells row).length := by rw [Lib.byteCells_length, h32.out]; kernel_rfl
      have HI2 := Lib.hid hi2
      clear hrow hi2
      go_wp2_with fail
      go_loopw [8, 9] (fun t8 t9 wi => ∃ j : Nat, t9 = .int .i64 j ∧ j ≤ i ∧ t8 = .bool (!((rs.take j).any (· == row))) ∧ Hid (CState rs v i w wi)) (fun _ t9 _ => i - (intOf t9).toNat)
      case atStart => exact ⟨0, rfl, by omega, rfl, HS⟩
      case round =>
        clear HS
        obtain ⟨j, rfl, hj, rfl, HS⟩ := hrel
        by_cases hji : j < i
        · obtain ⟨rj, hrj⟩ : ∃ rj, Hid (rs.getD j [] = rj) := ⟨_, rfl⟩
          have HJ : Hid (rs[j]? = some rj) := by rw [Hid, ← hrj.out, List.getD_eq_getElem?_getD, List.getElem?_eq_getElem (by omega)]; rfl
          have hj32 := Lib.hid (HR.out j rj HJ.out).1
          have hi1 : (Tryd.prog.info? 41).map (·.size) = some (Lib.byteCells rj).length := by rw [Lib.byteCells_length, hj32.out]; kernel_rfl
          have hi2 := HI2.out
          have hjl : (j : Int) < (rs.length : Int) := by omega
          have hil : (i : Int) < (rs.length : Int) := by omega
          have hjd : decide ((j : Int) < (i : Int)) = true := by rw [decide_eq_true_eq]; omega
          have hu1 := Tryd.underlying41
          obtain ⟨i0, hi0, hz0, hz1, hz2⟩ := info_parts info8'
          have hce5 : Tryd.prog.cellsOf 5 = 1 := by kernel_rfl
          have hq : ∀ W, (Op.equalIn 10000 41 (.agg (Lib.byteCells rj).toArray) (.agg (Lib.byteCells row).toArray)).run Tryd.prog W = .ok (rj == row) W := fun W =>
            run_equal_bytes Tryd.underlying41 hi0 hce5 Tryd.underlying5 Tryd.isAgg5 rj row hj32.out h32.out W
          have hge : Tryd.prog.eqGuardType Tryd.prog.depth 41 = false := by kernel_rfl
          have htk : Hid ((rs.take (j + 1)).any (· == row) = ((rs.take j).any (· == row) || rj == row)) := by rw [Hid, take_any rs j (by omega), hrj.out]
          clear hi0 hz0 hz1 hz2 hce5
          have HRi := Lib.hid (HR.out.below HS.out.2)
          go_upto_region 12 with (fail)
          refine wp_region_held_drew (S := fun W => Hid (ReadsR W g o rs) ∧ Hid (CState rs v i w W)) (by kernel_rfl) ⟨HRi.out.below (below_drewN' (Below.refl _ _) 1), Lib.hid (HS.out.below (below_drewN' (Below.refl _ _) 1))⟩ (fun hHeld => ?_)
          refine takeO (i := 0) (v := .slice (some ⟨g, o, none⟩) rs.length c) rfl (by kernel_rfl) (by kernel_rfl) (by kernel_rfl) (fun _ _ _ h => h) (by assumption) (Or.inl ⟨by rfl, fun W hSW => by go_simp⟩) ?_
          simp only [Act.put, List.setIfInBounds_toArray, List.set_cons_zero, List.set_cons_succ]
          refine takeO (i := 1) (v := .int .i64 (j : Int)) rfl (by kernel_rfl) (by kernel_rfl) (by kernel_rfl) (fun _ _ _ h => h) (by assumption) (Or.inl ⟨by rfl, fun W hSW => by go_simp⟩) ?_
          simp only [Act.put, List.setIfInBounds_toArray, List.set_cons_zero, List.set_cons_succ]
          refine takeO (i := 2) (v := .pointer (some ⟨g, o + j * 32, none⟩)) rfl (by kernel_rfl) (by kernel_rfl) (by kernel_rfl) (fun _ _ _ h => h) (by assumption) (Or.inl ⟨by rfl, fun W hSW => by go_simp⟩) ?_
          simp only [Act.put, List.setIfInBounds_toArray, List.set_cons_zero, List.set_cons_succ]
          refine takeO (i := 3) (v := .agg (Lib.byteCells rj).toArray) rfl (by kernel_rfl) (by kernel_rfl) (by kernel_rfl) (fun _ _ _ h => h) (by assumption) (yieldsIf_load_mid (by rfl) 41 (.tmp 33) rfl g (o + j * 32) rfl (Lib.byteCells rj) _ (fun W h => (h.1.out j rj HJ.out).2) hu1 rfl hi1) ?_
          simp only [Act.put, List.setIfInBounds_toArray, List.set_cons_zero, List.set_cons_succ]
          refine takeO (i := 4) (v := .slice (some ⟨g, o, none⟩) rs.length c) rfl (by kernel_rfl) (by kernel_rfl) (by kernel_rfl) (fun _ _ _ h => h) (by assumption) (Or.inl ⟨by rfl, fun W hSW => by go_simp⟩) ?_
          simp only [Act.put, List.setIfInBounds_toArray, List.set_cons_zero, List.set_cons_succ]
          refine takeO (i := 5) (v := .int .i64 (i : Int)) rfl (by kernel_rfl) (by kernel_rfl) (by kernel_rfl) (fun _ _ _ h => h) (by assumption) (Or.inl ⟨by rfl, fun W hSW => by go_simp⟩) ?_
          simp only [Act.put, List.setIfInBounds_toArray, List.set_cons_zero, List.set_cons_succ]
          refine takeO (i := 6) (v := .pointer (some ⟨g, o + i * 32, none⟩)) rfl (by kernel_rfl) (by kernel_rfl) (by kernel_rfl) (fun _ _ _ h => h) (by assumption) (Or.inl ⟨by rfl, fun W hSW => by go_simp⟩) ?_
          simp only [Act.put, List.setIfInBounds_toArray, List.set_cons_zero, List.set_cons_succ]
          refine takeO (i := 7) (v := .agg (Lib.byteCells row).toArray) rfl (by kernel_rfl) (by kernel_rfl) (by kernel_rfl) (fun _ _ _ h => h) (by assumption) (yieldsIf_load_mid (by rfl) 41 (.tmp 37) rfl g (o + i * 32) rfl (Lib.byteCells row) _ (fun W h => (h.1.out i row HI.out).2) hu1 rfl hi2) ?_
          simp only [Act.put, List.setIfInBounds_toArray, List.set_cons_zero, List.set_cons_succ]
          refine takeO (i := 8) (v := .bool (rj == row)) rfl (by kernel_rfl) (by kernel_rfl) (by kernel_rfl) (fun _ _ _ h => h) (by assumption) (Or.inl ⟨by rfl, fun W hSW => by go_simp⟩) ?_
          simp only [Act.put, List.setIfInBounds_toArray, List.set_cons_zero, List.set_cons_succ]
          refine wpAnyH_done (by kernel_rfl) ?_ _
          have HS2 := hHeld.2
          clear hHeld hq hge hu1 hi1 hi2 HRi HS
          cases hb : (rj == row)
          · go_wp2_with fail
            refine ⟨⟨j + 1, by first | rfl | simp, by omega, ?_, HS2⟩, by simp [intOf]; omega⟩
            rw [htk.out, hb, Bool.or_false]
          · go_wp2_with fail
            refine ⟨⟨j + 1, by first | rfl | simp, by omega, ?_, HS2⟩, by simp [intOf]; omega⟩
            rw [htk.out, hb, Bool.or_true]
            rfl
        · obtain ⟨k, rfl⟩ : ∃ k, k = j := ⟨_, rfl⟩
          obtain rfl : k = i := by omega
          have hjd : decide ((k : Int) < (k : Int)) = false := by simp
          have hil : (k : Int) < (rs.length : Int) := by omega
          have hrd := Lib.hid ((HR.out.below HS.out.2) k row HI.out).2
          have hi2 := HI2.out
          have hdk := dnK_le rs k
          have hw64 : wrap64 ((dnK rs k : Int) + 1) = ((dnK rs k + 1 : Nat) : Int) := by
            simp only [wrap64]
            omega
          cases hb : (rs.take k).any (· == row)
          · have hdn : dnK rs (k + 1) = dnK rs k + 1 := by rw [dnK_succ, hrw.out, hb]; rfl
            go_wp2_with (first
              | refine wpList_load_mid rfl 41 (.tmp 46) rfl g (o + k * 32) rfl (Lib.byteCells row) _ hrd.out Tryd.underlying41 rfl hi2 ?_
              | refine wpList_oneRow rfl (.tmp 47) rfl row h32.out rfl ?_
              | (at_builtin; refine wpList_append_own _ rfl (.tmp 43) (.tmp 48) 40 rfl w.heap.size 42 i0 _ 32 32 Tryd.underlying40 HII.out H0.out H1.out H2.out (by rw [cellsB_size32]) (by omega) v k (flatC (rs.take k)) rfl (HS.out.1.alloc _) ⟨wr.heap.size, 0, none⟩ 1 1 (Lib.byteCells row) rfl (by rw [Lib.byteCells_length, h32.out]) (row_new wr row) (one_cells row) (by unfold maxLen; omega) (by omega) (by rw [World.size_alloc]; have := HS.out.2.size; omega) ?_; intro v1 w1 hown1 hgrow1 hnil1))
            refine ⟨⟨k + 1, v1, rfl, by first | rfl | simp, by rw [hdn]; simp, by omega, HS.out.next HI.out hown1 hgrow1⟩, by simp [intOf]; omega⟩
          · have hdn : dnK rs (k + 1) = dnK rs k := by rw [dnK_succ, hrw.out, hb]; rfl
            go_wp2_with (first
              | refine wpList_load_mid rfl 41 (.tmp 46) rfl g (o + k * 32) rfl (Lib.byteCells row) _ hrd.out Tryd.underlying41 rfl hi2 ?_
              | refine wpList_oneRow rfl (.tmp 47) rfl row h32.out rfl ?_
              | (at_builtin; refine wpList_append_own _ rfl (.tmp 43) (.tmp 48) 40 rfl w.heap.size 42 i0 _ 32 32 Tryd.underlying40 HII.out H0.out H1.out H2.out (by rw [cellsB_size32]) (by omega) v k (flatC (rs.take k)) rfl (HS.out.1.alloc _) ⟨wr.heap.size, 0, none⟩ 1 1 (Lib.byteCells row) rfl (by rw [Lib.byteCells_length, h32.out]) (row_new wr row) (one_cells row) (by unfold maxLen; omega) (by omega) (by rw [World.size_alloc]; have := HS.out.2.size; omega) ?_; intro v1 w1 hown1 hgrow1 hnil1))
            refine ⟨⟨k + 1, v1, rfl, by first | rfl | simp, by rw [hdn], by omega, HS.out.next HI.out hown1 hgrow1⟩, by simp [intOf]; omega⟩
    · obtain rfl : i = rs.length := by omega
      have hdd : decide ((rs.length : Int) < (rs.length : Int)) = false := by simp
      have HP := Lib.hid (show PState rs [] v w wr from ⟨by have h := HS.out.1; rw [List.take_length] at h; simpa using h, HS.out.2⟩)
      clear HS hi hlt
      go_wp2_with fail
      go_loopw [5, 10] (fun t5 t10 wr => ∃ (k : Nat) (v : Value) (es : List (List UInt8)), v = t5 ∧ t10 = .int .i64 k ∧ k ≤ zs.length ∧ Hid (es.length = k ∧ (∀ e ∈ es, e ∈ rs)) ∧ Hid (PState rs es v w wr)) (fun _ t10 _ => zs.length - (intOf t10).toNat)
      case atStart => exact ⟨0, v, [], rfl, rfl, by omega, ⟨rfl, fun e he => by cases he⟩, HP⟩
      case round =>
        clear HP
        obtain ⟨k, v, es, hv, rfl, hk, HE, HS⟩ := hrel
        subst hv
        by_cases hlt : k < zs.length
        · obtain ⟨z, hzk⟩ : ∃ z, zs[k]? = some z := ⟨_, List.getElem?_eq_getElem hlt⟩
          obtain ⟨hwf, a, hBa, hca⟩ := HZ.out k z hzk
          subst hBa
          have hcell : wr.cell? (a.add k) = some (.int .i64 z) := by
            rw [HS.out.2.cell (World.block_lt_of_cell? w _ hca)]; exact hca
          have hkl : decide ((k : Int) < (zs.length : Int)) = true := by rw [decide_eq_true_eq]; omega
          have hkl2 : (k : Int) < (zs.length : Int) := by omega
          have hnp : (0 : Int) < (rs.length : Int) := by omega
          obtain ⟨q, hqn, hq⟩ := pick_at z rs.length hpos hn
          obtain ⟨row, hrw⟩ : ∃ row, Hid (rs[q]? = some row) := ⟨_, List.getElem?_eq_getElem hqn⟩
          have h32 := Lib.hid (HR.out q row hrw.out).1
          have hi2 : Hid ((Tryd.prog.info? 41).map (·.size) = some (Lib.byteCells row).length) := by rw [Hid, Lib.byteCells_length, h32.out]; kernel_rfl
          have hrd := Lib.hid ((HR.out.below HS.out.2) q row hrw.out).2
          have hek : Hid (es.length ≤ 200) := by have := HE.out.1; rw [Hid]; omega
          have hql : (q : Int) < (rs.length : Int) := by omega
          clear hca hwf
          go_wp2_with (first
            | refine wpList_load_mid rfl 41 (.tmp 76) rfl g (o + q * 32) rfl (Lib.byteCells row) _ hrd.out Tryd.underlying41 rfl hi2.out ?_
            | refine wpList_oneRow rfl (.tmp 77) rfl row h32.out rfl ?_
            | (at_builtin; refine wpList_append_own _ rfl (.tmp 61) (.tmp 78) 40 rfl w.heap.size 42 i0 _ 32 32 Tryd.underlying40 HII.out H0.out H1.out H2.out (by rw [cellsB_size32]) (by omega) v (rs.length + es.length) (flatC (rs ++ es)) rfl (HS.out.1.alloc _) ⟨wr.heap.size, 0, none⟩ 1 1 (Lib.byteCells row) rfl (by rw [Lib.byteCells_length, h32.out]) (row_new wr row) (one_cells row) (by have := hek.out; unfold maxLen; omega) (by have := hek.out; omega) (by rw [World.size_alloc]; have := HS.out.2.size; omega) ?_; intro v1 w1 hown1 hgrow1 hnil1))
          refine ⟨⟨k + 1, v1, es ++ [row], rfl, by first | rfl | simp, by omega, ⟨by rw [List.length_append, HE.out.1]; rfl, fun e he => ?_⟩, HS.out.next hown1 hgrow1⟩, by simp [intOf]; omega⟩
          rcases List.mem_append.1 he with h | h
          · exact HE.out.2 e h
          · obtain rfl : e = row := by simpa using h
            exact List.mem_of_getElem? hrw.out
        · obtain ⟨k', rfl⟩ : ∃ k', k' = k := ⟨_, rfl⟩
          have hkk : k' = zs.length := by omega
          have hkd : ¬ ((k' : Int) < (zs.length : Int)) := by omega
          have hpl : 1 ≤ (rs ++ es).length := by rw [List.length_append]; omega
          have hesl : Hid (es.length ≤ 200) := by have := HE.out.1; rw [Hid]; omega
          obtain ⟨gv, cap, hv, hcap⟩ : ∃ gv cap, v = .slice (some ⟨gv, 0, none⟩) (rs.length + es.length) cap ∧ rs.length + es.length ≤ cap := by
            rcases HS.out.1.2 with ⟨_, h⟩ | ⟨gv, cap, cur, h, _, _, hc, _⟩
            · omega
            · exact ⟨gv, cap, h, hc⟩
          have hall : ∀ r ∈ rs ++ es, r.length = 32 := fun r hr => by
            rcases List.mem_append.1 hr with h | h
            · exact hrl.out r h
            · exact hrl.out r (HE.out.2 r h)
          have hdn : dnK (rs ++ es) (rs ++ es).length = dnK rs rs.length := by
            rw [List.length_append]
            exact dnK_extra rs es HE.out.2 es.length (Nat.le_refl _)
          have hD : Hid (∀ W, Hid (PState rs es v w W) → Calls Tryd.prog 23 #[v] W fun e w' => e = .returned (.int .i64 (dnK rs rs.length)) ∧ Below W.heap.size W w') := fun W hP => by
            have h1 := hP.out.1
            rw [hv] at h1 ⊢
            have h2 := distinct_some (rs ++ es) gv 0 cap (by rw [List.length_append]; exact hcap) (by have := hesl.out; rw [List.length_append]; omega) W (reads_own hall h1)
            rw [hdn, List.length_append] at h2
            exact h2
          have hS : Hid (∀ W, Below w.heap.size w W → Calls Tryd.prog 22 #[.slice none 0 0] W fun e w' => e = .returned (.agg (cellsB (Sha.sum []))) ∧ Below W.heap.size W w') := fun W hb =>
            sum_any none [] 0 (by simp) (Nat.le_refl _) (fun _ => rfl) W (ReadsB.nil _ _) (HCu.out.below hb) (HSq.out.below hb)
          obtain ⟨E, hE⟩ : ∃ E, Hid (Sha.sum [] = E) := ⟨_, rfl⟩
          rw [hE.out] at hS
          have hE32 : E.length = 32 := by rw [← hE.out]; exact empty_sum.2
          have hE0 : E.getD 0 0 = 227 := by rw [← hE.out]; exact empty_sum.1.1
          have hE31 : E.getD 31 0 = 85 := by rw [← hE.out]; exact empty_sum.1.2
          have HSC : Hid ((cellsB E).size = 32) := by rw [Hid, cellsB_size]; exact hE32
          have HZ2 : Hid ((cellsB (List.replicate 32 0)).size = (cellsB E).size) := by rw [Hid, HSC.out]; rfl
          have G0 : Hid ((cellsB E)[0]? = some (.int .u8 227)) := by
            have h := cellsB_get E 0 (by omega)
            rw [List.getD_eq_getElem?_getD, List.getElem?_eq_getElem (by omega)] at hE0
            rw [Hid, h]
            have : E[0] = 227 := hE0
            rw [this]
            rfl
          have G31 : Hid ((cellsB E)[31]? = some (.int .u8 85)) := by
            have h := cellsB_get E 31 (by omega)
            rw [List.getD_eq_getElem?_getD, List.getElem?_eq_getElem (by omega)] at hE31
            rw [Hid, h]
            have : E[31] = 85 := hE31
            rw [this]
            rfl
          clear hv hcap hdn hall hesl hE32 hE0 hE31 hE hk hlt hkk hpl
          go_wp2_with fail
          refine (hS.out wr HS.out.2).mono ?_
          rintro e w2 ⟨rfl, hb2⟩
          have HS2 := Lib.hid (HS.out.below hb2)
          clear hb2 HS
          go_upto_region 22 with (refine wpList_store_row rfl 42 (.tmp 11) (.tmp 80) rfl w2.heap.size (cellsB E) rfl rfl 42 _ (Blk.new w2 42 (cellsB (List.replicate 32 0))) (by rw [HSC.out]; kernel_rfl) HZ2.out (cellsB_one _) ?_)
          change Code.wp _ _ _ _ ((w2.alloc (.cells (cellsB (List.replicate 32 0)) 42)).setRow w2.heap.size (cellsB E))
          have HB3 := Lib.hid (Blk.row (Blk.new w2 42 (cellsB (List.replicate 32 0))) (cellsB E))
          have HS3 := Lib.hid (HS2.out.below (below_setRow ((Below.refl w2.heap.size w2).alloc (Nat.le_refl _) (.cells (cellsB (List.replicate 32 0)) 42)) (Nat.le_refl _) (cellsB E)))
          generalize ((w2.alloc (.cells (cellsB (List.replicate 32 0)) 42)).setRow w2.heap.size (cellsB E)) = w3 at *
          obtain ⟨g5, hg5⟩ : ∃ g5, Hid (g5 = w2.heap.size) := ⟨_, rfl⟩
          rw [← hg5.out] at HB3 ⊢
          go_wp2_with fail
          refine (hD.out w3 HS3).mono ?_
          rintro e w4 ⟨rfl, hb4⟩
          have HB4 := Lib.hid (HB3.out.below hb4 (Blk.lt HB3.out))
          have HS4 := Lib.hid (HS3.out.below hb4)
          clear hb4 HB3 HS3
          go_wp2_with fail
          refine (distinct_nil none 0 w4).mono ?_
          rintro e w5 ⟨rfl, hb5⟩
          have HB5 := Lib.hid (HB4.out.below hb5 (Blk.lt HB4.out))
          have HS5 := Lib.hid (HS4.out.below hb5)
          have c0 : w5.cell? ⟨g5, 0, none⟩ = some (.int .u8 227) := (HB5.out.cell 0).trans G0.out
          have c31 : w5.cell? ⟨g5, 31, none⟩ = some (.int .u8 85) := (HB5.out.cell 31).trans G31.out
          clear hb5 HB4 HS4
          go_wp2_with fail
          go_ret
          exact ⟨rfl, HS5.out.2⟩
set_option maxHeartbeats 4000000 in
set_option maxRecDepth 100000 in
theorem counts_nil (A : Option Addr) (c : Nat) (m : Nat) (B : Option Addr) (d : Nat) (hm : m ≤ 200) (w : World) (hCu : Cubes w) (hSq : Squares w) :
    Calls Tryd.prog 6 #[.slice A 0 c, .slice B m d] w fun e w' => e = .returned (.bool true) ∧ Below w.heap.size w w' := by
  have HCu := Lib.hid hCu
  have HSq := Lib.hid hSq
  have hm1 : ¬ ((200 : Int) < (m : Int)) := by omega
  clear hCu hSq
  go_enter Tryd.func6, Tryd.ntmps6
  go_wp2_with fail
  go_loopw [5, 6, 7] (fun t5 t6 t7 wr => t5 = .slice none 0 0 ∧ t6 = .int .i64 0 ∧ t7 = .int .i64 0 ∧ Hid (Below w.heap.size w wr)) (fun _ _ t7 _ => 0)
  case atStart => exact ⟨rfl, rfl, rfl, Below.refl _ _⟩
  case round =>
    obtain ⟨rfl, rfl, rfl, HS⟩ := hrel
    go_wp2_with fail
    go_loopw [5, 10] (fun t5 t10 wr => t5 = .slice none 0 0 ∧ t10 = .int .i64 0 ∧ Hid (Below w.heap.size w wr)) (fun _ t10 _ => 0)
    case atStart => exact ⟨rfl, rfl, HS⟩
    case round =>
      clear HS
      obtain ⟨rfl, rfl, HS⟩ := hrel
      have hS : Hid (∀ W, Below w.heap.size w W → Calls Tryd.prog 22 #[.slice none 0 0] W fun e w' => e = .returned (.agg (cellsB (Sha.sum []))) ∧ Below W.heap.size W w') := fun W hb =>
        sum_any none [] 0 (by simp) (Nat.le_refl _) (fun _ => rfl) W (ReadsB.nil _ _) (HCu.out.below hb) (HSq.out.below hb)
      obtain ⟨E, hE⟩ : ∃ E, Hid (Sha.sum [] = E) := ⟨_, rfl⟩
      rw [hE.out] at hS
      have hE32 : E.length = 32 := by rw [← hE.out]; exact empty_sum.2
      have hE0 : E.getD 0 0 = 227 := by rw [← hE.out]; exact empty_sum.1.1
      have hE31 : E.getD 31 0 = 85 := by rw [← hE.out]; exact empty_sum.1.2
      have HSC : Hid ((cellsB E).size = 32) := by rw [Hid, cellsB_size]; exact hE32
      have HZ2 : Hid ((cellsB (List.replicate 32 0)).size = (cellsB E).size) := by rw [Hid, HSC.out]; rfl
      have G0 : Hid ((cellsB E)[0]? = some (.int .u8 227)) := by
        have h := cellsB_get E 0 (by omega)
        rw [List.getD_eq_getElem?_getD, List.getElem?_eq_getElem (by omega)] at hE0
        rw [Hid, h]
        have : E[0] = 227 := hE0
        rw [this]
        rfl
      have G31 : Hid ((cellsB E)[31]? = some (.int .u8 85)) := by
        have h := cellsB_get E 31 (by omega)
        rw [List.getD_eq_getElem?_getD, List.getElem?_eq_getElem (by omega)] at hE31
        rw [Hid, h]
        have : E[31] = 85 := hE31
        rw [this]
        rfl
      by_cases hm0 : (0 : Int) < (m : Int)
      · go_wp2_with fail
        refine (hS.out wr HS.out).mono ?_
        rintro e w2 ⟨rfl, hb2⟩
        have HS2 := Lib.hid (below_step' HS.out hb2)
        clear hb2 HS
        go_upto_region 22 with (refine wpList_store_row rfl 42 (.tmp 11) (.tmp 80) rfl w2.heap.size (cellsB E) rfl rfl 42 _ (Blk.new w2 42 (cellsB (List.replicate 32 0))) (by rw [HSC.out]; kernel_rfl) HZ2.out (cellsB_one _) ?_)
        change Code.wp _ _ _ _ ((w2.alloc (.cells (cellsB (List.replicate 32 0)) 42)).setRow w2.heap.size (cellsB E))
        have HB3 := Lib.hid (Blk.row (Blk.new w2 42 (cellsB (List.replicate 32 0))) (cellsB E))
        have HS3 := Lib.hid (below_step' HS2.out (below_setRow ((Below.refl w2.heap.size w2).alloc (Nat.le_refl _) (.cells (cellsB (List.replicate 32 0)) 42)) (Nat.le_refl _) (cellsB E)))
        generalize ((w2.alloc (.cells (cellsB (List.replicate 32 0)) 42)).setRow w2.heap.size (cellsB E)) = w3 at *
        obtain ⟨g5, hg5⟩ : ∃ g5, Hid (g5 = w2.heap.size) := ⟨_, rfl⟩
        rw [← hg5.out] at HB3 ⊢
        go_wp2_with fail
        refine (distinct_nil none 0 w3).mono ?_
        rintro e w4 ⟨rfl, hb4⟩
        have HB4 := Lib.hid (HB3.out.below hb4 (Blk.lt HB3.out))
        have HS4 := Lib.hid (below_step' HS3.out hb4)
        clear hb4 HB3 HS3
        go_wp2_with fail
        refine (distinct_nil none 0 w4).mono ?_
        rintro e w5 ⟨rfl, hb5⟩
        have HB5 := Lib.hid (HB4.out.below hb5 (Blk.lt HB4.out))
        have HS5 := Lib.hid (below_step' HS4.out hb5)
        have c0 : w5.cell? ⟨g5, 0, none⟩ = some (.int .u8 227) := (HB5.out.cell 0).trans G0.out
        have c31 : w5.cell? ⟨g5, 31, none⟩ = some (.int .u8 85) := (HB5.out.cell 31).trans G31.out
        clear hb5 HB4 HS4
        go_wp2_with fail
        go_ret
        exact ⟨rfl, HS5.out⟩
      · go_wp2_with fail
        refine (hS.out wr HS.out).mono ?_
        rintro e w2 ⟨rfl, hb2⟩
        have HS2 := Lib.hid (below_step' HS.out hb2)
        clear hb2 HS
        go_upto_region 22 with (refine wpList_store_row rfl 42 (.tmp 11) (.tmp 80) rfl w2.heap.size (cellsB E) rfl rfl 42 _ (Blk.new w2 42 (cellsB (List.replicate 32 0))) (by rw [HSC.out]; kernel_rfl) HZ2.out (cellsB_one _) ?_)
        change Code.wp _ _ _ _ ((w2.alloc (.cells (cellsB (List.replicate 32 0)) 42)).setRow w2.heap.size (cellsB E))
        have HB3 := Lib.hid (Blk.row (Blk.new w2 42 (cellsB (List.replicate 32 0))) (cellsB E))
        have HS3 := Lib.hid (below_step' HS2.out (below_setRow ((Below.refl w2.heap.size w2).alloc (Nat.le_refl _) (.cells (cellsB (List.replicate 32 0)) 42)) (Nat.le_refl _) (cellsB E)))
        generalize ((w2.alloc (.cells (cellsB (List.replicate 32 0)) 42)).setRow w2.heap.size (cellsB E)) = w3 at *
        obtain ⟨g5, hg5⟩ : ∃ g5, Hid (g5 = w2.heap.size) := ⟨_, rfl⟩
        rw [← hg5.out] at HB3 ⊢
        go_wp2_with fail
        refine (distinct_nil none 0 w3).mono ?_
        rintro e w4 ⟨rfl, hb4⟩
        have HB4 := Lib.hid (HB3.out.below hb4 (Blk.lt HB3.out))
        have HS4 := Lib.hid (below_step' HS3.out hb4)
        clear hb4 HB3 HS3
        go_wp2_with fail
        refine (distinct_nil none 0 w4).mono ?_
        rintro e w5 ⟨rfl, hb5⟩
        have HB5 := Lib.hid (HB4.out.below hb5 (Blk.lt HB4.out))
        have HS5 := Lib.hid (below_step' HS4.out hb5)
        have c0 : w5.cell? ⟨g5, 0, none⟩ = some (.int .u8 227) := (HB5.out.cell 0).trans G0.out
        have c31 : w5.cell? ⟨g5, 31, none⟩ = some (.int .u8 85) := (HB5.out.cell 31).trans G31.out
        clear hb5 HB4 HS4
        go_wp2_with fail
        go_ret
        exact ⟨rfl, HS5.out⟩
theorem counts_long (A : Option Addr) (n c : Nat) (B : Option Addr) (m d : Nat) (h : 200 < n ∨ 200 < m) (w : World) :
    Calls Tryd.prog 6 #[.slice A n c, .slice B m d] w fun e w' => e = .returned (.bool true) ∧ Below w.heap.size w w' := by
  by_cases h1 : (200 : Int) < (n : Int)
  · go_enter Tryd.func6, Tryd.ntmps6
    go_wp2_with fail
    go_ret
    exact ⟨rfl, Below.refl _ _⟩
  · have h2 : (200 : Int) < (m : Int) := by omega
    go_enter Tryd.func6, Tryd.ntmps6
    go_wp2_with fail
    go_ret
    exact ⟨rfl, Below.refl _ _⟩
/-- The law, whatever its arguments. -/
theorem counts_any (A : Option Addr) (rs : List (List UInt8)) (c : Nat) (hc : rs.length ≤ c) (B : Option Addr) (zs : List Int) (d : Nat) (hd : zs.length ≤ d) (w : World)
    (hr : rs ≠ [] → ∃ g o, A = some ⟨g, o, none⟩ ∧ ReadsR w g o rs)
    (hz : ∀ j z, zs[j]? = some z → (Lit.int .i64 z).wf = true ∧ ∃ a, B = some a ∧ w.cell? (a.add j) = some (.int .i64 z)) (hCu : Cubes w) (hSq : Squares w) :
    Calls Tryd.prog 6 #[.slice A rs.length c, .slice B zs.length d] w fun e w' => e = .returned (.bool true) ∧ Below w.heap.size w w' := by
  by_cases hn : rs.length ≤ 200
  · by_cases hm : zs.length ≤ 200
    · by_cases h0 : rs = []
      · subst h0
        exact counts_nil A c zs.length B d hm w hCu hSq
      · obtain ⟨g, o, rfl, h⟩ := hr h0
        exact counts_some rs g o c hc zs B d hd h0 hn hm w h hz hCu hSq
    · exact counts_long A _ c B _ d (Or.inr (by omega)) w
  · exact counts_long A _ c B _ d (Or.inl (by omega)) w
end Go.Proofs.YtmaknbcfnigbmaaDoor
