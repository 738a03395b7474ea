/- aterm.list of outputs, of inputs, of pairs. Printed by wip/gen/gen_lists.py. -/
import Derived.Test.YtbldognffppeiaaDoorAtPutIn
namespace Go.Proofs.YtbldognffppeiaaDoor
open Go.RowKit Quo
set_option linter.unusedSimpArgs false
set_option linter.unusedVariables false
theorem outD_length (x : ByteArray × ByteArray × ByteArray) (h : x.1.size ≤ 1048576 ∧ x.2.1.size ≤ 1048576 ∧ x.2.2.size ≤ 1048576) : (outD x).length ≤ 6291466 := by
  have h1 := quoS_length _ h.1
  have h2 := quoS_length _ h.2.1
  have h3 := quoS_length _ h.2.2
  unfold outD
  simp only [List.length_append, List.length_cons, List.length_nil]
  omega
theorem inD_length (x : ByteArray × List ByteArray) (h : x.1.size ≤ 1048576 ∧ (∀ s ∈ x.2, s.size ≤ 1048576) ∧ x.2.length ≤ 1024) : (inD x).length ≤ 2149583880 := by
  have h1 := quoS_length _ h.1
  have h2 := listD_length x.2 1024 h.2.2 h.2.1
  unfold inD
  simp only [List.length_append, List.length_cons, List.length_nil]
  omega
theorem envD_length (x : ByteArray × ByteArray) (h : x.1.size ≤ 1048576 ∧ x.2.size ≤ 1048576) : (envD x).length ≤ 4194311 := by
  have h1 := quoS_length _ h.1
  have h2 := quoS_length _ h.2
  unfold envD
  simp only [List.length_append, List.length_cons, List.length_nil]
  omega
set_option maxHeartbeats 4000000 in
set_option maxRecDepth 100000 in
theorem list0_any (A : Option Addr) (l : List (ByteArray × ByteArray × ByteArray)) (c : Nat) (hl : l.length ≤ 1024) (hs : ∀ x ∈ l, x.1.size ≤ 1048576 ∧ x.2.1.size ≤ 1048576 ∧ x.2.2.size ≤ 1048576) (w : World) (hT : Tabs w) (h : OutsAt w A l) :
    Calls Tryd.prog 22 #[.slice A l.length c, .func (.func 23) #[] #[]] w fun e w' => e = .returned (.string (tx ([91] ++ joinC (l.map outD) ++ [93]))) ∧ Below w.heap.size w w' := by
  have HS := Lib.hid hs
  have H := Lib.hid h
  have HT := Lib.hid (fun w1 (h : Below w.heap.size w w1) => hT.below h)
  obtain ⟨n, hn⟩ : ∃ n, Hid (n = l.length) := ⟨_, rfl⟩
  rw [← hn.out] at hl ⊢
  clear hs hT h
  have hmk := make_strs n (by omega) w
  have HB0 : Hid (Below w.heap.size w (w.alloc (.cells (strCells (List.replicate n ⟨#[]⟩)) 9))) := (Below.refl _ w).alloc (Nat.le_refl _) _
  have HK0 : Hid (Blk (w.alloc (.cells (strCells (List.replicate n ⟨#[]⟩)) 9)) w.heap.size 9 (strCells (listM outD l 0))) := by
    have h := Blk.new w 9 (strCells (List.replicate n ⟨#[]⟩))
    rw [hn.out] at h ⊢
    exact h
  go_enter Tryd.func22, Tryd.ntmps22
  go_upto_region 2 with (fail)
  obtain ⟨g, hg⟩ : ∃ g, Hid (g = w.heap.size) := ⟨_, rfl⟩
  rw [← hg.out] at HK0 ⊢
  clear hmk
  generalize w.alloc (.cells (strCells (List.replicate n ⟨#[]⟩)) 9) = W0 at *
  go_wp2_with fail
  go_loopw [13] (fun t13 wr => ∃ k : Nat, t13 = .int .i64 k ∧ k ≤ n ∧ Hid (Blk wr g 9 (strCells (listM outD l k))) ∧ Hid (Below w.heap.size w wr)) (fun t13 _ => n - (intOf t13).toNat)
  case atStart => exact ⟨0, rfl, Nat.zero_le _, HK0, HB0⟩
  case round =>
    clear HK0 HB0
    obtain ⟨k, rfl, hk, HK, HB⟩ := hrel
    by_cases hlt : k < n
    · obtain ⟨x, hx⟩ : ∃ x, Hid (l[k]? = some x) := ⟨_, List.getElem?_eq_getElem (by rw [← hn.out]; exact hlt)⟩
      obtain ⟨ga, o, rfl, q0, q1, q2⟩ := H.out k x hx.out
      have r0 := (HB.out.cell (World.block_lt_of_cell? w _ q0)).trans q0
      have r1 := (HB.out.cell (World.block_lt_of_cell? w _ q1)).trans q1
      have r2 := (HB.out.cell (World.block_lt_of_cell? w _ q2)).trans q2
      have hz := HS.out x (List.mem_of_getElem? hx.out)
      have HBa : Hid (Below w.heap.size w (wr.alloc (.cells #[.string x.1, .string x.2.1, .string x.2.2] 49))) := HB.out.alloc HB.out.size _
      have HKa := Lib.hid (HK.out.alloc (.cells #[.string x.1, .string x.2.1, .string x.2.2] 49))
      have HC := Lib.hid (put1_any x.1 x.2.1 x.2.2 hz.1 hz.2.1 hz.2.2 (wr.alloc (.cells #[.string x.1, .string x.2.1, .string x.2.2] 49)) (HT.out _ HBa.out))
      have u0 : (wr.alloc (.cells #[.string x.1, .string x.2.1, .string x.2.2] 49)).cell? ⟨wr.heap.size, 0, none⟩ = some (.string x.1) := (Blk.new wr 49 _).cell 0
      have u1 : (wr.alloc (.cells #[.string x.1, .string x.2.1, .string x.2.2] 49)).cell? ⟨wr.heap.size, 1, none⟩ = some (.string x.2.1) := (Blk.new wr 49 _).cell 1
      have u2 : (wr.alloc (.cells #[.string x.1, .string x.2.1, .string x.2.2] 49)).cell? ⟨wr.heap.size, 2, none⟩ = some (.string x.2.2) := (Blk.new wr 49 _).cell 2
      have d1 : (k : Int) < (n : Int) := by omega
      have d2 : (0 : Int) ≤ (k : Int) := by omega
      clear q0 q1 q2 HK HB hz
      go_upto_region 5 with (fail)
      clear r0 r1 r2
      generalize wr.alloc (.cells #[.string x.1, .string x.2.1, .string x.2.2] 49) = Wa at *
      have hgl := HKa.out.lt
      go_upto_region 6 with (first
        | (go_at_call 23; refine HC.out.mono ?_; rintro e w1 ⟨rfl, hb⟩; have HB1 := Lib.hid (HBa.out.trans (hb.mono HBa.out.size)); have HK1 := Lib.hid (HKa.out.below hb hgl); have y1 : w1.cell? ⟨g, k, none⟩ = some (.string ⟨#[]⟩) := (HK1.out.cell k).trans (strCells_at (listM_at (by rw [← hn.out]; exact hlt))); have y2 : w1.frozen? ⟨g, k, none⟩ = false := HK1.out.frozen k; clear hb)
        | fail)
      have HB2 : Hid (Below w.heap.size w (w1.setCell ⟨g, k, none⟩ (.string (tx (outD x))))) := HB1.out.setCell (p := ⟨g, k, none⟩) (by show _ ≤ g; rw [hg.out]; exact Nat.le_refl _) _
      have HK2 : Hid (Blk (w1.setCell ⟨g, k, none⟩ (.string (tx (outD x)))) g 9 (strCells (listM outD l (k + 1)))) := by
        have h := HK1.out.set_ k (.string (tx (outD x)))
        rw [strCells_set, listM_set hx.out] at h
        exact h
      clear y1 y2 HK1 HB1
      generalize w1.setCell ⟨g, k, none⟩ (.string (tx (outD x))) = W2 at *
      go_wp2_with fail
      exact ⟨⟨k + 1, by first | rfl | simp, by omega, HK2, HB2⟩, by simp [intOf]; omega⟩
    · obtain rfl : n = k := by omega
      have d1 : ¬ (n : Int) < (n : Int) := by omega
      have hll : Hid ((l.map (fun s => tx (outD s))).length = n) := by rw [Hid, List.length_map, hn.out]
      have hlen := joinC_length (l.map outD) 1024 6291466 (by rw [List.length_map, ← hn.out]; exact hl) (fun y hy => by
        obtain ⟨s, hs, rfl⟩ := List.mem_map.1 hy
        exact outD_length s (HS.out s hs))
      have HJ := Lib.hid (Tryd.strings_Join g 0 n (l.map (fun s => tx (outD s))) ⟨#[44]⟩ wr (fun j x hj => by
        have h := HK.out
        rw [hn.out, listM_all] at h
        rw [Nat.zero_add]
        exact (h.cell j).trans (strCells_at hj)) HK.out.lt (by rw [hll.out]; omega) (by rw [hll.out]; exact Nat.le_refl _) (by rw [join_told]; omega))
      rw [hll.out, join_told] at HJ
      obtain ⟨J, hJ⟩ : ∃ J, Hid (J = tx (joinC (l.map outD))) := ⟨_, rfl⟩
      have hJs : J.size ≤ 6442462208 := by rw [hJ.out, tx_size]; omega
      have hJ2 : Hid ((⟨(joinC (l.map outD)).toArray⟩ : ByteArray) = J) := hJ.out.symm
      rw [hJ2.out] at HJ
      have e1 : ¬ 9223372036854775807 < 1 + J.size := by omega
      have e2 : ¬ 9223372036854775807 < 1 + J.size + 1 := by omega
      clear hlen
      go_wp2_with (first
        | (go_at_call 30; refine HJ.out.mono ?_; rintro e w1 ⟨rfl, hb⟩; have HB1 := Lib.hid (HB.out.trans (hb.mono HB.out.size)); clear hb)
        | fail)
      go_ret
      refine ⟨congrArg (fun x => Ending.returned (.string x)) ?_, HB1.out⟩
      rw [hJ.out, show (⟨#[91]⟩ : ByteArray) = tx [91] from rfl, show (⟨#[93]⟩ : ByteArray) = tx [93] from rfl, tx_app, tx_app]
      rfl
set_option maxHeartbeats 4000000 in
set_option maxRecDepth 100000 in
theorem list6_any (A : Option Addr) (l : List (ByteArray × ByteArray)) (c : Nat) (hl : l.length ≤ 1024) (hs : ∀ x ∈ l, x.1.size ≤ 1048576 ∧ x.2.size ≤ 1048576) (w : World) (hT : Tabs w) (h : PairsAt w A l) :
    Calls Tryd.prog 28 #[.slice A l.length c, .func (.func 29) #[] #[]] w fun e w' => e = .returned (.string (tx ([91] ++ joinC (l.map envD) ++ [93]))) ∧ Below w.heap.size w w' := by
  have HS := Lib.hid hs
  have H := Lib.hid h
  have HT := Lib.hid (fun w1 (h : Below w.heap.size w w1) => hT.below h)
  obtain ⟨n, hn⟩ : ∃ n, Hid (n = l.length) := ⟨_, rfl⟩
  rw [← hn.out] at hl ⊢
  clear hs hT h
  have hmk := make_strs n (by omega) w
  have HB0 : Hid (Below w.heap.size w (w.alloc (.cells (strCells (List.replicate n ⟨#[]⟩)) 9))) := (Below.refl _ w).alloc (Nat.le_refl _) _
  have HK0 : Hid (Blk (w.alloc (.cells (strCells (List.replicate n ⟨#[]⟩)) 9)) w.heap.size 9 (strCells (listM envD l 0))) := by
    have h := Blk.new w 9 (strCells (List.replicate n ⟨#[]⟩))
    rw [hn.out] at h ⊢
    exact h
  go_enter Tryd.func28, Tryd.ntmps28
  go_upto_region 2 with (fail)
  obtain ⟨g, hg⟩ : ∃ g, Hid (g = w.heap.size) := ⟨_, rfl⟩
  rw [← hg.out] at HK0 ⊢
  clear hmk
  generalize w.alloc (.cells (strCells (List.replicate n ⟨#[]⟩)) 9) = W0 at *
  go_wp2_with fail
  go_loopw [13] (fun t13 wr => ∃ k : Nat, t13 = .int .i64 k ∧ k ≤ n ∧ Hid (Blk wr g 9 (strCells (listM envD l k))) ∧ Hid (Below w.heap.size w wr)) (fun t13 _ => n - (intOf t13).toNat)
  case atStart => exact ⟨0, rfl, Nat.zero_le _, HK0, HB0⟩
  case round =>
    clear HK0 HB0
    obtain ⟨k, rfl, hk, HK, HB⟩ := hrel
    by_cases hlt : k < n
    · obtain ⟨x, hx⟩ : ∃ x, Hid (l[k]? = some x) := ⟨_, List.getElem?_eq_getElem (by rw [← hn.out]; exact hlt)⟩
      obtain ⟨ga, o, rfl, q0, q1⟩ := H.out k x hx.out
      have r0 := (HB.out.cell (World.block_lt_of_cell? w _ q0)).trans q0
      have r1 := (HB.out.cell (World.block_lt_of_cell? w _ q1)).trans q1
      have hz := HS.out x (List.mem_of_getElem? hx.out)
      have HBa : Hid (Below w.heap.size w (wr.alloc (.cells #[.string x.1, .string x.2] 70))) := HB.out.alloc HB.out.size _
      have HKa := Lib.hid (HK.out.alloc (.cells #[.string x.1, .string x.2] 70))
      have HC := Lib.hid (put3_any x.1 x.2 hz.1 hz.2 (wr.alloc (.cells #[.string x.1, .string x.2] 70)) (HT.out _ HBa.out))
      have u0 : (wr.alloc (.cells #[.string x.1, .string x.2] 70)).cell? ⟨wr.heap.size, 0, none⟩ = some (.string x.1) := (Blk.new wr 70 _).cell 0
      have u1 : (wr.alloc (.cells #[.string x.1, .string x.2] 70)).cell? ⟨wr.heap.size, 1, none⟩ = some (.string x.2) := (Blk.new wr 70 _).cell 1
      have d1 : (k : Int) < (n : Int) := by omega
      have d2 : (0 : Int) ≤ (k : Int) := by omega
      clear q0 q1 HK HB hz
      go_upto_region 5 with (fail)
      clear r0 r1
      generalize wr.alloc (.cells #[.string x.1, .string x.2] 70) = Wa at *
      have hgl := HKa.out.lt
      go_upto_region 6 with (first
        | (go_at_call 29; refine HC.out.mono ?_; rintro e w1 ⟨rfl, hb⟩; have HB1 := Lib.hid (HBa.out.trans (hb.mono HBa.out.size)); have HK1 := Lib.hid (HKa.out.below hb hgl); have y1 : w1.cell? ⟨g, k, none⟩ = some (.string ⟨#[]⟩) := (HK1.out.cell k).trans (strCells_at (listM_at (by rw [← hn.out]; exact hlt))); have y2 : w1.frozen? ⟨g, k, none⟩ = false := HK1.out.frozen k; clear hb)
        | fail)
      have HB2 : Hid (Below w.heap.size w (w1.setCell ⟨g, k, none⟩ (.string (tx (envD x))))) := HB1.out.setCell (p := ⟨g, k, none⟩) (by show _ ≤ g; rw [hg.out]; exact Nat.le_refl _) _
      have HK2 : Hid (Blk (w1.setCell ⟨g, k, none⟩ (.string (tx (envD x)))) g 9 (strCells (listM envD l (k + 1)))) := by
        have h := HK1.out.set_ k (.string (tx (envD x)))
        rw [strCells_set, listM_set hx.out] at h
        exact h
      clear y1 y2 HK1 HB1
      generalize w1.setCell ⟨g, k, none⟩ (.string (tx (envD x))) = W2 at *
      go_wp2_with fail
      exact ⟨⟨k + 1, by first | rfl | simp, by omega, HK2, HB2⟩, by simp [intOf]; omega⟩
    · obtain rfl : n = k := by omega
      have d1 : ¬ (n : Int) < (n : Int) := by omega
      have hll : Hid ((l.map (fun s => tx (envD s))).length = n) := by rw [Hid, List.length_map, hn.out]
      have hlen := joinC_length (l.map envD) 1024 4194311 (by rw [List.length_map, ← hn.out]; exact hl) (fun y hy => by
        obtain ⟨s, hs, rfl⟩ := List.mem_map.1 hy
        exact envD_length s (HS.out s hs))
      have HJ := Lib.hid (Tryd.strings_Join g 0 n (l.map (fun s => tx (envD s))) ⟨#[44]⟩ wr (fun j x hj => by
        have h := HK.out
        rw [hn.out, listM_all] at h
        rw [Nat.zero_add]
        exact (h.cell j).trans (strCells_at hj)) HK.out.lt (by rw [hll.out]; omega) (by rw [hll.out]; exact Nat.le_refl _) (by rw [join_told]; omega))
      rw [hll.out, join_told] at HJ
      obtain ⟨J, hJ⟩ : ∃ J, Hid (J = tx (joinC (l.map envD))) := ⟨_, rfl⟩
      have hJs : J.size ≤ 4294975488 := by rw [hJ.out, tx_size]; omega
      have hJ2 : Hid ((⟨(joinC (l.map envD)).toArray⟩ : ByteArray) = J) := hJ.out.symm
      rw [hJ2.out] at HJ
      have e1 : ¬ 9223372036854775807 < 1 + J.size := by omega
      have e2 : ¬ 9223372036854775807 < 1 + J.size + 1 := by omega
      clear hlen
      go_wp2_with (first
        | (go_at_call 30; refine HJ.out.mono ?_; rintro e w1 ⟨rfl, hb⟩; have HB1 := Lib.hid (HB.out.trans (hb.mono HB.out.size)); clear hb)
        | fail)
      go_ret
      refine ⟨congrArg (fun x => Ending.returned (.string x)) ?_, HB1.out⟩
      rw [hJ.out, show (⟨#[91]⟩ : ByteArray) = tx [91] from rfl, show (⟨#[93]⟩ : ByteArray) = tx [93] from rfl, tx_app, tx_app]
      rfl
set_option maxHeartbeats 4000000 in
set_option maxRecDepth 100000 in
theorem list1_any (A : Option Addr) (l : List (ByteArray × List ByteArray)) (c : Nat) (hl : l.length ≤ 1024) (hs : ∀ x ∈ l, x.1.size ≤ 1048576 ∧ (∀ s ∈ x.2, s.size ≤ 1048576) ∧ x.2.length ≤ 1024) (w : World) (hT : Tabs w) (h : InsAt w A l) :
    Calls Tryd.prog 25 #[.slice A l.length c, .func (.func 26) #[] #[]] w fun e w' => e = .returned (.string (tx ([91] ++ joinC (l.map inD) ++ [93]))) ∧ Below w.heap.size w w' := by
  have HS := Lib.hid hs
  have H := Lib.hid h
  have HT := Lib.hid (fun w1 (h : Below w.heap.size w w1) => hT.below h)
  obtain ⟨n, hn⟩ : ∃ n, Hid (n = l.length) := ⟨_, rfl⟩
  rw [← hn.out] at hl ⊢
  clear hs hT h
  have hmk := make_strs n (by omega) w
  have HB0 : Hid (Below w.heap.size w (w.alloc (.cells (strCells (List.replicate n ⟨#[]⟩)) 9))) := (Below.refl _ w).alloc (Nat.le_refl _) _
  have HK0 : Hid (Blk (w.alloc (.cells (strCells (List.replicate n ⟨#[]⟩)) 9)) w.heap.size 9 (strCells (listM inD l 0))) := by
    have h := Blk.new w 9 (strCells (List.replicate n ⟨#[]⟩))
    rw [hn.out] at h ⊢
    exact h
  go_enter Tryd.func25, Tryd.ntmps25
  go_upto_region 2 with (fail)
  obtain ⟨g, hg⟩ : ∃ g, Hid (g = w.heap.size) := ⟨_, rfl⟩
  rw [← hg.out] at HK0 ⊢
  clear hmk
  generalize w.alloc (.cells (strCells (List.replicate n ⟨#[]⟩)) 9) = W0 at *
  go_wp2_with fail
  go_loopw [13] (fun t13 wr => ∃ k : Nat, t13 = .int .i64 k ∧ k ≤ n ∧ Hid (Blk wr g 9 (strCells (listM inD l k))) ∧ Hid (Below w.heap.size w wr)) (fun t13 _ => n - (intOf t13).toNat)
  case atStart => exact ⟨0, rfl, Nat.zero_le _, HK0, HB0⟩
  case round =>
    clear HK0 HB0
    obtain ⟨k, rfl, hk, HK, HB⟩ := hrel
    by_cases hlt : k < n
    · obtain ⟨x, hx⟩ : ∃ x, Hid (l[k]? = some x) := ⟨_, List.getElem?_eq_getElem (by rw [← hn.out]; exact hlt)⟩
      obtain ⟨ga, o, An, cn, rfl, q0, q1, q3, q4, q5, q6⟩ := H.out k x hx.out
      have r0 := (HB.out.cell (World.block_lt_of_cell? w _ q0)).trans q0
      have r1 := (HB.out.cell (World.block_lt_of_cell? w _ q1)).trans q1
      have hz := HS.out x (List.mem_of_getElem? hx.out)
      have HBa : Hid (Below w.heap.size w (wr.alloc (.cells #[.string x.1, .slice An x.2.length cn] 61))) := HB.out.alloc HB.out.size _
      have HKa := Lib.hid (HK.out.alloc (.cells #[.string x.1, .slice An x.2.length cn] 61))
      have HC := Lib.hid (put2_any x An x.2.length cn rfl hz.2.2 hz.1 hz.2.1 (wr.alloc (.cells #[.string x.1, .slice An x.2.length cn] 61)) (HT.out _ HBa.out) (q5.below HBa.out))
      have u0 : (wr.alloc (.cells #[.string x.1, .slice An x.2.length cn] 61)).cell? ⟨wr.heap.size, 0, none⟩ = some (.string x.1) := (Blk.new wr 61 _).cell 0
      have u1 : (wr.alloc (.cells #[.string x.1, .slice An x.2.length cn] 61)).cell? ⟨wr.heap.size, 1, none⟩ = some (.slice An x.2.length cn) := (Blk.new wr 61 _).cell 1
      have d1 : (k : Int) < (n : Int) := by omega
      have d2 : (0 : Int) ≤ (k : Int) := by omega
      clear q0 q1 HK HB hz q3 q4 q5
      go_upto_region 5 with (fail)
      clear r0 r1
      generalize wr.alloc (.cells #[.string x.1, .slice An x.2.length cn] 61) = Wa at *
      have hgl := HKa.out.lt
      go_upto_region 6 with (first
        | (go_at_call 26; refine HC.out.mono ?_; rintro e w1 ⟨rfl, hb⟩; have HB1 := Lib.hid (HBa.out.trans (hb.mono HBa.out.size)); have HK1 := Lib.hid (HKa.out.below hb hgl); have y1 : w1.cell? ⟨g, k, none⟩ = some (.string ⟨#[]⟩) := (HK1.out.cell k).trans (strCells_at (listM_at (by rw [← hn.out]; exact hlt))); have y2 : w1.frozen? ⟨g, k, none⟩ = false := HK1.out.frozen k; clear hb)
        | fail)
      have HB2 : Hid (Below w.heap.size w (w1.setCell ⟨g, k, none⟩ (.string (tx (inD x))))) := HB1.out.setCell (p := ⟨g, k, none⟩) (by show _ ≤ g; rw [hg.out]; exact Nat.le_refl _) _
      have HK2 : Hid (Blk (w1.setCell ⟨g, k, none⟩ (.string (tx (inD x)))) g 9 (strCells (listM inD l (k + 1)))) := by
        have h := HK1.out.set_ k (.string (tx (inD x)))
        rw [strCells_set, listM_set hx.out] at h
        exact h
      clear y1 y2 HK1 HB1
      generalize w1.setCell ⟨g, k, none⟩ (.string (tx (inD x))) = W2 at *
      go_wp2_with fail
      exact ⟨⟨k + 1, by first | rfl | simp, by omega, HK2, HB2⟩, by simp [intOf]; omega⟩
    · obtain rfl : n = k := by omega
      have d1 : ¬ (n : Int) < (n : Int) := by omega
      have hll : Hid ((l.map (fun s => tx (inD s))).length = n) := by rw [Hid, List.length_map, hn.out]
      have hlen := joinC_length (l.map inD) 1024 2149583880 (by rw [List.length_map, ← hn.out]; exact hl) (fun y hy => by
        obtain ⟨s, hs, rfl⟩ := List.mem_map.1 hy
        exact inD_length s (HS.out s hs))
      have HJ := Lib.hid (Tryd.strings_Join g 0 n (l.map (fun s => tx (inD s))) ⟨#[44]⟩ wr (fun j x hj => by
        have h := HK.out
        rw [hn.out, listM_all] at h
        rw [Nat.zero_add]
        exact (h.cell j).trans (strCells_at hj)) HK.out.lt (by rw [hll.out]; omega) (by rw [hll.out]; exact Nat.le_refl _) (by rw [join_told]; omega))
      rw [hll.out, join_told] at HJ
      obtain ⟨J, hJ⟩ : ∃ J, Hid (J = tx (joinC (l.map inD))) := ⟨_, rfl⟩
      have hJs : J.size ≤ 2201173894144 := by rw [hJ.out, tx_size]; omega
      have hJ2 : Hid ((⟨(joinC (l.map inD)).toArray⟩ : ByteArray) = J) := hJ.out.symm
      rw [hJ2.out] at HJ
      have e1 : ¬ 9223372036854775807 < 1 + J.size := by omega
      have e2 : ¬ 9223372036854775807 < 1 + J.size + 1 := by omega
      clear hlen
      go_wp2_with (first
        | (go_at_call 30; refine HJ.out.mono ?_; rintro e w1 ⟨rfl, hb⟩; have HB1 := Lib.hid (HB.out.trans (hb.mono HB.out.size)); clear hb)
        | fail)
      go_ret
      refine ⟨congrArg (fun x => Ending.returned (.string x)) ?_, HB1.out⟩
      rw [hJ.out, show (⟨#[91]⟩ : ByteArray) = tx [91] from rfl, show (⟨#[93]⟩ : ByteArray) = tx [93] from rfl, tx_app, tx_app]
      rfl
end Go.Proofs.YtbldognffppeiaaDoor
