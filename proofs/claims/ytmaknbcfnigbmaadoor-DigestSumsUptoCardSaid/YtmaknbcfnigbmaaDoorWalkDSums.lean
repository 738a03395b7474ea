/- DigestSums, walked. -/
import Derived.Test.YtmaknbcfnigbmaaDoorWalkDParses
import Derived.Test.YtmaknbcfnigbmaaDoorWalkRefSum
namespace Go.Proofs.YtmaknbcfnigbmaaDoor
open Go.RowKit Sig Go.Proofs.YtmaknbcfnigbmaaDoorW.PrintWords
set_option linter.unusedSimpArgs false

set_option maxHeartbeats 4000000 in
set_option maxRecDepth 100000 in
theorem dsums_any (A : Option Addr) (b : List UInt8) (c : Nat) (w : World) (hb : ReadsB w A b) (hc : b.length ≤ c) (hA : A = none → c = 0) (lb : b.length ≤ 1048576) (hCu : Cubes w) (hSq : Squares w) :
    Calls Tryd.prog 9 #[.slice A b.length c] w fun e w' => e = .returned (.bool true) ∧ Below w.heap.size w w' := by
  have HB := Lib.hid hb
  have LB := Lib.hid lb
  have HC := Lib.hid hc
  have HAn := Lib.hid hA
  have HCu := Lib.hid hCu
  have HSq := Lib.hid hSq
  clear hb lb hc hA hCu hSq
  have HO0 : Hid ((w.alloc (.cells #[] 5)).ownsRow w.heap.size 5 1 (.slice (some ⟨w.heap.size, 0, none⟩) 0 0) ([] : List Int).length (nums .u8 [])) := ⟨rfl, Or.inr ⟨w.heap.size, 0, #[], rfl, Nat.le_refl _, heap_alloc_new w _, Nat.le_refl _, Nat.zero_le _, rfl, rfl⟩⟩
  have HR0 : Hid (ReadsInt (w.alloc (.cells #[] 5)) .u8 A b.length (intsB b)) := (reads_of_B HB.out (by have := LB.out; omega)).below ((Below.refl _ w).alloc (Nat.le_refl _) _)
  have HW0 : Hid (Below w.heap.size w (w.alloc (.cells #[] 5))) := (Below.refl _ w).alloc (Nat.le_refl _) _
  go_enter Tryd.func9, Tryd.ntmps9
  go_wp2_with (at_builtin; refine print_append_row w.heap.size rfl _ _ 22 5 .u8 1 rfl Tryd.underlying22 info8' (by decide) _ [] (intsB b) A b.length c rfl rfl HO0.out HR0.out HW0.out (by simp) (by have := LB.out; simp; omega) ?_)
  rintro v1 w1 hown1 hw1 - -
  have HO1 := Lib.hid hown1
  have HW1 := Lib.hid hw1
  have hsz1 : w.heap.size ≤ w1.heap.size := hw1.size
  clear hown1 hw1 HO0 HR0 HW0
  go_wp2_with (at_builtin; refine print_append_num w.heap.size rfl _ _ 22 5 .u8 1 rfl Tryd.underlying22 info8' (by decide) v1 (intsB b) 90 rfl rfl HO1.out HW1.out hsz1 (by have := LB.out; rw [intsB_length]; omega) ?_)
  rintro v2 w2 hown2 hw2 - -
  have ho2 : w2.ownsRow w.heap.size 5 1 v2 (b ++ [90]).length (Lib.byteCells (b ++ [90])) := by
    have e : intsB b ++ [90] = intsB (b ++ [90]) := by simp [intsB]
    rw [e, numsB] at hown2
    simpa [intsB_length] using hown2
  clear hown2 HO1 HW1
  obtain ⟨A2, c2, rfl, hc2, hr2⟩ := own_readsB ho2
  have HW2 := Lib.hid hw2
  have hbl : (b ++ [90]).length = b.length + 1 := by simp
  have hbc : b.length ≤ c2 := by rw [hbl] at hc2; omega
  obtain ⟨ad2, rfl⟩ := hr2.some_ (by rw [hbl]; omega)
  have HR2 := Lib.hid hr2
  rw [hbl]
  clear ho2 hw2 hr2 hc2
  have HP : Hid (ReadsB w2 (some ad2) b) := by
    have h := HR2.out.head b.length
    rwa [List.take_left] at h
  go_wp2_with fail
  refine (sum_any (some ad2) b c2 (by have := LB.out; omega) hbc (fun h => by cases h) w2 HP.out (HCu.out.below HW2.out) (HSq.out.below HW2.out)).mono ?_
  rintro r w3 ⟨rfl, hb3⟩
  have HW3 := Lib.hid (below_step' HW2.out hb3)
  have HR3 := Lib.hid (HR2.out.below hb3)
  obtain ⟨y, hy⟩ : ∃ y, y = Sha.sum b := ⟨_, rfl⟩
  have HY : Hid (y.length = 32) := by rw [Hid, hy]; exact Sha.sum_length b
  rw [← hy]
  have HYS := Lib.hid hy
  have HSY : Hid ((cellsB y).size = 32) := by rw [Hid, cellsB_size]; exact HY.out
  have HZ : Hid ((cellsB (List.replicate 32 0)).size = (cellsB y).size) := by rw [HSY.out]; rfl
  clear hb3 hy HP HR2 HW2
  go_wp2_with (refine wpList_store_row rfl 42 (.tmp 4) (.tmp 15) rfl w3.heap.size (cellsB y) rfl rfl 42 _ (Blk.new w3 42 (cellsB (List.replicate 32 0))) (by rw [HSY.out]; kernel_rfl) HZ.out (cellsB_one _) ?_)
  have MX := Lib.hid (Blk.row (Blk.new w3 42 (cellsB (List.replicate 32 0))) (cellsB y))
  have MB : Hid (Below w3.heap.size w3 ((w3.alloc (.cells (cellsB (List.replicate 32 0)) 42)).setRow w3.heap.size (cellsB y))) := below_setRow ((Below.refl _ w3).alloc (Nat.le_refl _) _) (Nat.le_refl _) _
  have MW := Lib.hid (below_step' HW3.out MB.out)
  have MR := Lib.hid (HR3.out.below MB.out)
  change Calls _ _ _ ((w3.alloc (.cells (cellsB (List.replicate 32 0)) 42)).setRow w3.heap.size (cellsB y)) _
  obtain ⟨g4, hg4⟩ : ∃ g, Hid (g = w3.heap.size) := ⟨_, rfl⟩
  generalize hw4 : (w3.alloc (.cells (cellsB (List.replicate 32 0)) 42)).setRow w3.heap.size (cellsB y) = w4 at *
  rw [← hg4.out] at MX ⊢
  clear hw4 MB HR3 HW3
  refine (refSum_any A b c (by have := LB.out; omega) HC.out HAn.out w4 (HB.out.below MW.out)).mono ?_
  rintro r w5 ⟨rfl, hb5⟩
  rw [← HYS.out]
  have NX := Lib.hid (MX.out.below hb5 (Blk.lt MX.out))
  have NW := Lib.hid (below_step' MW.out hb5)
  have NR := Lib.hid (MR.out.below hb5)
  clear hb5 MX MW MR
  go_upto_region 4 with (refine wpList_store_row rfl 41 (.tmp 5) (.tmp 17) rfl w5.heap.size (cellsB y) rfl rfl 41 _ (Blk.new w5 41 (cellsB (List.replicate 32 0))) (by rw [HSY.out]; kernel_rfl) HZ.out (cellsB_one _) ?_)
  have RM : Hid (Below w5.heap.size w5 ((w5.alloc (.cells (cellsB (List.replicate 32 0)) 41)).setRow w5.heap.size (cellsB y))) := below_setRow ((Below.refl _ w5).alloc (Nat.le_refl _) _) (Nat.le_refl _) _
  have RX := Lib.hid (NX.out.below RM.out (Blk.lt NX.out))
  have RY := Lib.hid (Blk.row (Blk.new w5 41 (cellsB (List.replicate 32 0))) (cellsB y))
  have RW := Lib.hid (below_step' NW.out RM.out)
  have RR := Lib.hid (NR.out.below RM.out)
  change Code.wp _ _ _ _ ((w5.alloc (.cells (cellsB (List.replicate 32 0)) 41)).setRow w5.heap.size (cellsB y))
  obtain ⟨g5, hg5⟩ : ∃ g, Hid (g = w5.heap.size) := ⟨_, rfl⟩
  generalize hw6 : (w5.alloc (.cells (cellsB (List.replicate 32 0)) 41)).setRow w5.heap.size (cellsB y) = w6 at *
  rw [← hg5.out] at RY ⊢
  clear hw6 RM NX NW NR
  have RB := Lib.hid (HB.out.below RW.out)
  have hu1 := Tryd.underlying41
  have hu2 := Tryd.underlying42
  have hi2 : (Tryd.prog.info? 42).map (·.size) = some (Lib.byteCells y).length := by rw [Lib.byteCells_length, HY.out]; kernel_rfl
  have hi3 : (Tryd.prog.info? 41).map (·.size) = some (Lib.byteCells y).length := by rw [Lib.byteCells_length, HY.out]; kernel_rfl
  obtain ⟨sb, hsb, hsbz⟩ : ∃ sb : ByteArray, sb = ⟨b.toArray⟩ ∧ sb.size = b.length := ⟨_, rfl, rfl⟩
  obtain ⟨si, hsi⟩ : ∃ si : ByteArray, si = ⟨(b ++ [90]).toArray⟩ := ⟨_, rfl⟩
  have hCv1 : Hid (∀ W, ReadsB W (some ad2) (b ++ [90]) → (convert 22 9 (.slice (some ad2) (b.length + 1) c2)).run Tryd.prog W = .ok (.string si) W) := fun W h => by
    have h2 := text_of_B (P := Tryd.prog) (c := c2) Tryd.underlying22 Tryd.underlying5 Tryd.underlying9 h (by have := LB.out; rw [hbl]; omega)
    rw [← hsi, hbl] at h2
    exact h2
  have hCv2 : Hid (∀ W, ReadsB W A b → (convert 22 9 (.slice A b.length c)).run Tryd.prog W = .ok (.string sb) W) := fun W h => by
    have h2 := text_of_B (P := Tryd.prog) (c := c) Tryd.underlying22 Tryd.underlying5 Tryd.underlying9 h (by have := LB.out; omega)
    rw [← hsb] at h2
    exact h2
  have hcat : sb ++ ⟨#[90]⟩ = si := by rw [hsb, hsi]; exact cat_text b
  have hroom : sb.size ≤ 9223372036854775806 := by rw [hsbz]; have := LB.out; omega
  clear hsb hsi hsbz hbl hbc
  have hText : Hid (∀ W, (Hid (Blk W g4 42 (cellsB y)) ∧ Hid (Blk W g5 41 (cellsB y)) ∧ Hid (ReadsB W (some ad2) (b ++ [90])) ∧ Hid (ReadsB W A b) ∧ Hid (Below w.heap.size w W)) → Calls Tryd.prog 26 #[.agg (Lib.byteCells y).toArray] W fun r W' => ∃ u : ByteArray, r = .returned (.string u) ∧ Hid (u.toList = enc y) ∧ (Hid (Blk W' g4 42 (cellsB y)) ∧ Hid (Blk W' g5 41 (cellsB y)) ∧ Hid (ReadsB W' (some ad2) (b ++ [90])) ∧ Hid (ReadsB W' A b) ∧ Hid (Below w.heap.size w W'))) :=
    fun W ⟨h1, h2, h3, h4, h5⟩ => (text_any y HY.out W).mono fun r W' ⟨u, hr, hu, hb⟩ => ⟨u, hr, hu, ⟨below_blk h1 hb, below_blk h2 hb, Lib.hid (h3.out.below hb), Lib.hid (h4.out.below hb), Lib.hid (below_step' h5.out hb)⟩⟩
  have hEnc : Hid (∀ W, (Hid (Blk W g4 42 (cellsB y)) ∧ Hid (Blk W g5 41 (cellsB y)) ∧ Hid (ReadsB W (some ad2) (b ++ [90])) ∧ Hid (ReadsB W A b) ∧ Hid (Below w.heap.size w W)) → Calls Tryd.prog 16 #[.slice (some ⟨g5, 0, none⟩) 32 32] W fun r W' => ∃ u : ByteArray, r = .returned (.string u) ∧ Hid (u.toList = enc y) ∧ (Hid (Blk W' g4 42 (cellsB y)) ∧ Hid (Blk W' g5 41 (cellsB y)) ∧ Hid (ReadsB W' (some ad2) (b ++ [90])) ∧ Hid (ReadsB W' A b) ∧ Hid (Below w.heap.size w W'))) :=
    fun W ⟨h1, h2, h3, h4, h5⟩ => (refEncode_32 y HY.out g5 W h2.out).mono fun r W' ⟨u, hr, hu, hb⟩ => ⟨u, hr, hu, ⟨below_blk h1 hb, below_blk h2 hb, Lib.hid (h3.out.below hb), Lib.hid (h4.out.below hb), Lib.hid (below_step' h5.out hb)⟩⟩
  have hShort : Hid (∀ W, (Hid (Blk W g4 42 (cellsB y)) ∧ Hid (Blk W g5 41 (cellsB y)) ∧ Hid (ReadsB W (some ad2) (b ++ [90])) ∧ Hid (ReadsB W A b) ∧ Hid (Below w.heap.size w W)) → Calls Tryd.prog 27 #[.agg (Lib.byteCells y).toArray] W fun r W' => ∃ u : ByteArray, r = .returned (.string u) ∧ Hid (u.toList = enc (fold y 32)) ∧ (Hid (Blk W' g4 42 (cellsB y)) ∧ Hid (Blk W' g5 41 (cellsB y)) ∧ Hid (ReadsB W' (some ad2) (b ++ [90])) ∧ Hid (ReadsB W' A b) ∧ Hid (Below w.heap.size w W'))) :=
    fun W ⟨h1, h2, h3, h4, h5⟩ => (short_list y HY.out W).mono fun r W' ⟨u, hr, hu, hb⟩ => ⟨u, hr, hu, ⟨below_blk h1 hb, below_blk h2 hb, Lib.hid (h3.out.below hb), Lib.hid (h4.out.below hb), Lib.hid (below_step' h5.out hb)⟩⟩
  have hRefShort : Hid (∀ W, (Hid (Blk W g4 42 (cellsB y)) ∧ Hid (Blk W g5 41 (cellsB y)) ∧ Hid (ReadsB W (some ad2) (b ++ [90])) ∧ Hid (ReadsB W A b) ∧ Hid (Below w.heap.size w W)) → Calls Tryd.prog 28 #[.agg (Lib.byteCells y).toArray] W fun r W' => ∃ u : ByteArray, r = .returned (.string u) ∧ Hid (u.toList = enc (fold y 32)) ∧ (Hid (Blk W' g4 42 (cellsB y)) ∧ Hid (Blk W' g5 41 (cellsB y)) ∧ Hid (ReadsB W' (some ad2) (b ++ [90])) ∧ Hid (ReadsB W' A b) ∧ Hid (Below w.heap.size w W'))) :=
    fun W ⟨h1, h2, h3, h4, h5⟩ => (refShort_any y HY.out W).mono fun r W' ⟨u, hr, hu, hb⟩ => ⟨u, hr, hu, ⟨below_blk h1 hb, below_blk h2 hb, Lib.hid (h3.out.below hb), Lib.hid (h4.out.below hb), Lib.hid (below_step' h5.out hb)⟩⟩
  obtain ⟨i0, hi0, hz0, hz1, hz2⟩ := info_parts info8'
  have hce5 : Tryd.prog.cellsOf 5 = 1 := by kernel_rfl
  have hq1 : ∀ W, (Op.equalIn 10000 42 (.agg (Lib.byteCells y).toArray) (.agg (Lib.byteCells y).toArray)).run Tryd.prog W = .ok true W := fun W => by
    have : (Op.equalIn 10000 42 (.agg (Lib.byteCells y).toArray) (.agg (Lib.byteCells y).toArray)).run Tryd.prog W = .ok (y == y) W := run_equal_bytes Tryd.underlying42 hi0 hce5 Tryd.underlying5 Tryd.isAgg5 y y HY.out HY.out W
    simpa using this
  have hge2 : Tryd.prog.eqGuardType Tryd.prog.depth 42 = false := by kernel_rfl
  clear hi0 hz0 hz1 hz2 hce5
  refine wp_region_held_drew (S := fun W => (Hid (Blk W g4 42 (cellsB y)) ∧ Hid (Blk W g5 41 (cellsB y)) ∧ Hid (ReadsB W (some ad2) (b ++ [90])) ∧ Hid (ReadsB W A b) ∧ Hid (Below w.heap.size w W))) (by kernel_rfl) ⟨RX.out, RY.out, RR.out, RB.out, Lib.hid (below_drew1 RW.out)⟩ (fun hHeld => ?_)
  refine takeO (i := 0) (v := .agg (Lib.byteCells y).toArray) rfl (by kernel_rfl) (by kernel_rfl) (by kernel_rfl) (fun _ _ _ h => h) (by assumption) (yieldsIf_load_mid (by rfl) 42 (.tmp 4) rfl g4 0 rfl (Lib.byteCells y) _ (fun W h => blk_range h.1.out) hu2 rfl hi2) ?_
  simp only [Act.put, List.setIfInBounds_toArray, List.set_cons_zero, List.set_cons_succ]
  refine takeO (i := 1) (v := .agg (Lib.byteCells y).toArray) rfl (by kernel_rfl) (by kernel_rfl) (by kernel_rfl) (fun _ _ _ h => h) (by assumption) (yieldsIf_load_mid (by rfl) 41 (.tmp 5) rfl g5 0 rfl (Lib.byteCells y) _ (fun W h => blk_range h.2.1.out) hu1 rfl hi3) ?_
  simp only [Act.put, List.setIfInBounds_toArray, List.set_cons_zero, List.set_cons_succ]
  refine takeO (i := 2) (v := .bool true) rfl (by kernel_rfl) (by kernel_rfl) (by kernel_rfl) (fun _ _ _ h => h) (by assumption) (Or.inl ⟨by rfl, fun W hSW => by go_simp⟩) ?_
  simp only [Act.put, List.setIfInBounds_toArray, List.set_cons_zero, List.set_cons_succ]
  refine takeO (i := 3) (v := .bool true) rfl (by kernel_rfl) (by kernel_rfl) (by kernel_rfl) (fun _ _ _ h => h) (by assumption) (Or.inl ⟨by rfl, fun W hSW => by go_simp⟩) ?_
  simp only [Act.put, List.setIfInBounds_toArray, List.set_cons_zero, List.set_cons_succ]
  refine takeO (i := 4) (v := .slice (some ad2) (b.length + 1) c2) rfl (by kernel_rfl) (by kernel_rfl) (by kernel_rfl) (fun _ _ _ h => h) (by assumption) (Or.inl ⟨by rfl, fun W hSW => by go_simp⟩) ?_
  simp only [Act.put, List.setIfInBounds_toArray, List.set_cons_zero, List.set_cons_succ]
  refine takeO (i := 5) (v := .string si) rfl (by kernel_rfl) (by kernel_rfl) (by kernel_rfl) (fun _ _ _ h => h) (by assumption) (Or.inl ⟨by rfl, fun W hSW => by have hc1 := hCv1.out W hSW.2.2.1.out; go_simp⟩) ?_
  simp only [Act.put, List.setIfInBounds_toArray, List.set_cons_zero, List.set_cons_succ]
  refine takeO (i := 6) (v := .slice A b.length c) rfl (by kernel_rfl) (by kernel_rfl) (by kernel_rfl) (fun _ _ _ h => h) (by assumption) (Or.inl ⟨by rfl, fun W hSW => by go_simp⟩) ?_
  simp only [Act.put, List.setIfInBounds_toArray, List.set_cons_zero, List.set_cons_succ]
  refine takeO (i := 7) (v := .string sb) rfl (by kernel_rfl) (by kernel_rfl) (by kernel_rfl) (fun _ _ _ h => h) (by assumption) (Or.inl ⟨by rfl, fun W hSW => by have hc1 := hCv2.out W hSW.2.2.2.1.out; go_simp⟩) ?_
  simp only [Act.put, List.setIfInBounds_toArray, List.set_cons_zero, List.set_cons_succ]
  refine takeO (i := 8) (v := .string si) rfl (by kernel_rfl) (by kernel_rfl) (by kernel_rfl) (fun _ _ _ h => h) (by assumption) (Or.inl ⟨by rfl, fun W hSW => by go_simp⟩) ?_
  simp only [Act.put, List.setIfInBounds_toArray, List.set_cons_zero, List.set_cons_succ]
  refine takeO (i := 9) (v := .bool true) rfl (by kernel_rfl) (by kernel_rfl) (by kernel_rfl) (fun _ _ _ h => h) (by assumption) (Or.inl ⟨by rfl, fun W hSW => by go_simp⟩) ?_
  simp only [Act.put, List.setIfInBounds_toArray, List.set_cons_zero, List.set_cons_succ]
  refine takeO (i := 10) (v := .bool true) rfl (by kernel_rfl) (by kernel_rfl) (by kernel_rfl) (fun _ _ _ h => h) (by assumption) (Or.inl ⟨by rfl, fun W hSW => by go_simp⟩) ?_
  simp only [Act.put, List.setIfInBounds_toArray, List.set_cons_zero, List.set_cons_succ]
  refine takeO (i := 11) (v := .bool true) rfl (by kernel_rfl) (by kernel_rfl) (by kernel_rfl) (fun _ _ _ h => h) (by assumption) (Or.inl ⟨by rfl, fun W hSW => by go_simp⟩) ?_
  simp only [Act.put, List.setIfInBounds_toArray, List.set_cons_zero, List.set_cons_succ]
  refine takeO (i := 12) (v := .agg (Lib.byteCells y).toArray) rfl (by kernel_rfl) (by kernel_rfl) (by kernel_rfl) (fun _ _ _ h => h) (by assumption) (yieldsIf_load_mid (by rfl) 42 (.tmp 4) rfl g4 0 rfl (Lib.byteCells y) _ (fun W h => blk_range h.1.out) hu2 rfl hi2) ?_
  simp only [Act.put, List.setIfInBounds_toArray, List.set_cons_zero, List.set_cons_succ]
  refine takeO (i := 14) (v := .slice (some ⟨g5, 0, none⟩) 32 32) rfl (by kernel_rfl) (by kernel_rfl) (by kernel_rfl) (fun _ _ _ h => h) (by assumption) (Or.inl ⟨by rfl, fun W hSW => by have hsh := shape_of hSW.2.1.out HSY.out; go_simp⟩) ?_
  simp only [Act.put, List.setIfInBounds_toArray, List.set_cons_zero, List.set_cons_succ]
  refine wpAnyH_ready (rs := [13]) (by kernel_rfl) (by simp) ?_
  refine AllReadyH.cons rfl (fun K hK => ?_) AllReadyH.nil
  go_simp
  go_at_call 26
  refine (hText.out _ (by assumption)).mono ?_
  rintro r W' ⟨u1, rfl, hu1', hS⟩
  refine hK.out _ _ hS (fun hHeld => ?_)
  clear hK K
  try simp only [Act.put, List.setIfInBounds_toArray, List.set_cons_zero, List.set_cons_succ]
  refine wpAnyH_ready (rs := [15]) (by kernel_rfl) (by simp) ?_
  refine AllReadyH.cons rfl (fun K hK => ?_) AllReadyH.nil
  go_simp
  go_at_call 16
  refine (hEnc.out _ (by assumption)).mono ?_
  rintro r W' ⟨u2, rfl, hu2', hS⟩
  refine hK.out _ _ hS (fun hHeld => ?_)
  clear hK K
  try simp only [Act.put, List.setIfInBounds_toArray, List.set_cons_zero, List.set_cons_succ]
  have hte : (u1.toList == u2.toList) = true := by rw [hu1'.out, hu2'.out]; simp
  refine takeO (i := 16) (v := .bool true) rfl (by kernel_rfl) (by kernel_rfl) (by kernel_rfl) (fun _ _ _ h => h) (by assumption) (Or.inl ⟨by rfl, fun W hSW => by go_simp⟩) ?_
  simp only [Act.put, List.setIfInBounds_toArray, List.set_cons_zero, List.set_cons_succ]
  refine takeO (i := 17) (v := .bool true) rfl (by kernel_rfl) (by kernel_rfl) (by kernel_rfl) (fun _ _ _ h => h) (by assumption) (Or.inl ⟨by rfl, fun W hSW => by go_simp⟩) ?_
  simp only [Act.put, List.setIfInBounds_toArray, List.set_cons_zero, List.set_cons_succ]
  refine takeO (i := 18) (v := .bool true) rfl (by kernel_rfl) (by kernel_rfl) (by kernel_rfl) (fun _ _ _ h => h) (by assumption) (Or.inl ⟨by rfl, fun W hSW => by go_simp⟩) ?_
  simp only [Act.put, List.setIfInBounds_toArray, List.set_cons_zero, List.set_cons_succ]
  refine takeO (i := 19) (v := .agg (Lib.byteCells y).toArray) rfl (by kernel_rfl) (by kernel_rfl) (by kernel_rfl) (fun _ _ _ h => h) (by assumption) (yieldsIf_load_mid (by rfl) 42 (.tmp 4) rfl g4 0 rfl (Lib.byteCells y) _ (fun W h => blk_range h.1.out) hu2 rfl hi2) ?_
  simp only [Act.put, List.setIfInBounds_toArray, List.set_cons_zero, List.set_cons_succ]
  refine takeO (i := 21) (v := .agg (Lib.byteCells y).toArray) rfl (by kernel_rfl) (by kernel_rfl) (by kernel_rfl) (fun _ _ _ h => h) (by assumption) (yieldsIf_load_mid (by rfl) 41 (.tmp 5) rfl g5 0 rfl (Lib.byteCells y) _ (fun W h => blk_range h.2.1.out) hu1 rfl hi3) ?_
  simp only [Act.put, List.setIfInBounds_toArray, List.set_cons_zero, List.set_cons_succ]
  refine wpAnyH_ready (rs := [20]) (by kernel_rfl) (by simp) ?_
  refine AllReadyH.cons rfl (fun K hK => ?_) AllReadyH.nil
  go_simp
  go_at_call 27
  refine (hShort.out _ (by assumption)).mono ?_
  rintro r W' ⟨u3, rfl, hu3', hS⟩
  refine hK.out _ _ hS (fun hHeld => ?_)
  clear hK K
  try simp only [Act.put, List.setIfInBounds_toArray, List.set_cons_zero, List.set_cons_succ]
  refine wpAnyH_ready (rs := [22]) (by kernel_rfl) (by simp) ?_
  refine AllReadyH.cons rfl (fun K hK => ?_) AllReadyH.nil
  go_simp
  go_at_call 28
  refine (hRefShort.out _ (by assumption)).mono ?_
  rintro r W' ⟨u4, rfl, hu4', hS⟩
  refine hK.out _ _ hS (fun hHeld => ?_)
  clear hK K
  try simp only [Act.put, List.setIfInBounds_toArray, List.set_cons_zero, List.set_cons_succ]
  have hse : (u3.toList == u4.toList) = true := by rw [hu3'.out, hu4'.out]; simp
  refine takeO (i := 23) (v := .bool true) rfl (by kernel_rfl) (by kernel_rfl) (by kernel_rfl) (fun _ _ _ h => h) (by assumption) (Or.inl ⟨by rfl, fun W hSW => by go_simp⟩) ?_
  simp only [Act.put, List.setIfInBounds_toArray, List.set_cons_zero, List.set_cons_succ]
  refine takeO (i := 24) (v := .bool true) rfl (by kernel_rfl) (by kernel_rfl) (by kernel_rfl) (fun _ _ _ h => h) (by assumption) (Or.inl ⟨by rfl, fun W hSW => by go_simp⟩) ?_
  simp only [Act.put, List.setIfInBounds_toArray, List.set_cons_zero, List.set_cons_succ]
  refine takeO (i := 25) (v := .bool true) rfl (by kernel_rfl) (by kernel_rfl) (by kernel_rfl) (fun _ _ _ h => h) (by assumption) (Or.inl ⟨by rfl, fun W hSW => by go_simp⟩) ?_
  simp only [Act.put, List.setIfInBounds_toArray, List.set_cons_zero, List.set_cons_succ]
  refine wpAnyH_done (by kernel_rfl) ?_ _
  have HF := Lib.hid hS
  clear hS hHeld
  go_wp2_with fail
  go_ret
  exact ⟨rfl, HF.out.2.2.2.2.out⟩
end Go.Proofs.YtmaknbcfnigbmaaDoor
