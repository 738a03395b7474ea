/- DigestBack, walked. -/
import Derived.Test.YtmaknbcfnigbmaaDoorDig
import Derived.Test.YtmaknbcfnigbmaaDoorMem
import Derived.Deep.CutBlock
import Derived.Deep.DeepCutAuto
namespace Go.Proofs.YtmaknbcfnigbmaaDoor
open Go.RowKit Sig Go.Proofs.YtmaknbcfnigbmaaDoorW.PrintWords

theorem blk_range {w : World} {g : Nat} {t : TypeId} {l : List UInt8} (h : Blk w g t (cellsB l)) : w.rangeAt g 0 (Lib.byteCells l) := by
  intro j v hj
  rw [Nat.zero_add, h.cell]
  simpa [cellsB, Lib.byteCells] using hj
theorem range_below {w w1 : World} {g : Nat} {cs : List Value} (h : w.rangeAt g 0 cs) (hb : Below w.heap.size w w1) : w1.rangeAt g 0 cs := fun j v hj => (hb.cell (World.block_lt_of_cell? w _ (h j v hj))).trans (h j v hj)
theorem one_cells (l : List UInt8) : ∀ v ∈ Lib.byteCells l, v.oneCell' = true := by
  intro v hv
  simp [Lib.byteCells] at hv
  obtain ⟨b, _, rfl⟩ := hv
  rfl
theorem size_enc {l : List UInt8} (h : l.length = 20) : (⟨(enc l).toArray⟩ : ByteArray).size = 32 := by
  rw [size_of_list (l := enc l) (ByteArray.toList_eq _), enc_length, h]
theorem short_str (l : List UInt8) (hl : l.length = 32) (w : World) :
    Calls Tryd.prog 27 #[.agg (cellsB l)] w fun e w' => ∃ u : ByteArray, e = .returned (.string u) ∧ u.size = 32 ∧ Below w.heap.size w w' :=
  (short_any l hl w).mono fun _ _ ⟨h1, h2⟩ => ⟨_, h1, size_enc (fold_length l 32), h2⟩
theorem below_then' {g : Nat} {w W w2 : World} (h : Below g w W) (k : Below W.heap.size W w2) (hg : g = w.heap.size) : Below g w w2 := by subst hg; exact below_step' h k
/-- What the last region reads. -/
def Held3 (g2 g3 g6 B : Nat) (w0 : World) (d e : List UInt8) (W : World) : Prop :=
  W.rangeAt g2 0 (Lib.byteCells d) ∧ W.rangeAt g3 0 (Lib.byteCells e) ∧ W.rangeAt g6 0 (Lib.byteCells d) ∧ Below B w0 W

set_option maxHeartbeats 1000000 in
set_option maxRecDepth 100000 in
theorem dback_any (d e : List UInt8) (hd : d.length = 32) (he : e.length = 32) (w : World) (hT : Tails w) :
    Calls Tryd.prog 8 #[.agg (cellsB d), .agg (cellsB e)] w fun r w' => r = .returned (.bool true) ∧ Below w.heap.size w w' := by
  have HT := Lib.hid hT
  have HD := Lib.hid hd
  have HE := Lib.hid he
  have HSD : Hid ((cellsB d).size = 32) := by rw [Hid, cellsB_size]; exact hd
  have HB2 := Lib.hid ((Blk.new w 41 (cellsB d)).alloc (.cells (cellsB e) 41))
  have HB3 := Lib.hid (blk_alloc2 w (.cells (cellsB d) 41) 41 (cellsB e))
  have HW := Lib.hid (((Below.refl w.heap.size w).alloc (Nat.le_refl _) (.cells (cellsB d) 41)).alloc (by simp) (.cells (cellsB e) 41))
  clear hT hd he
  go_enter Tryd.func8, Tryd.ntmps8
  go_wp2_with (refine wpList_load_row rfl 41 (.tmp 2) rfl w.heap.size rfl 41 (cellsB d) (0, 0) _ HB2.out Tryd.underlying41 rfl (by rw [HSD.out]; kernel_rfl) ?_)
  change Calls _ _ _ ((w.alloc (.cells (cellsB d) 41)).alloc (.cells (cellsB e) 41)) _
  generalize (w.alloc (.cells (cellsB d) 41)).alloc (.cells (cellsB e) 41) = w1 at *
  refine (text_any d HD.out w1).mono ?_
  rintro r w2 ⟨s, rfl, hs, hb⟩
  have HS := Lib.hid hs
  have KB2 := Lib.hid (HB2.out.below hb (Blk.lt HB2.out))
  have KB3 := Lib.hid (HB3.out.below hb (Blk.lt HB3.out))
  have KW := Lib.hid (below_step' HW.out hb)
  clear hs hb HB2 HB3 HW
  go_wp2_with fail
  refine (parse_any s w2 (HT.out.below KW.out) (by rw [size_of_list HS.out, enc_length]; have := HD.out; omega)).mono ?_
  rintro r w3 ⟨hb, d', n, hd', rfl, hcase⟩
  have hdd : d' = d ∧ n = 0 := by
    rcases hcase with ⟨h1, h2⟩ | ⟨h1, _, _⟩
    · exact ⟨enc_inj _ _ (by rw [h1, ← HS.out, ByteArray.toList_eq]), h2⟩
    · exact absurd (by rw [← HS.out, ByteArray.toList_eq]) (h1 d HD.out)
  obtain ⟨rfl, rfl⟩ := hdd
  have LB2 := Lib.hid (KB2.out.below hb (Blk.lt KB2.out))
  have LB3 := Lib.hid (KB3.out.below hb (Blk.lt KB3.out))
  have LW := Lib.hid (below_step' KW.out hb)
  clear hb hcase KB2 KB3 KW hd'
  have HZ : Hid ((cellsB (List.replicate 32 0)).size = (cellsB d').size) := by rw [Hid, HSD.out]; rfl
  go_upto_region 3 with (refine wpList_store_row rfl 42 (.tmp 6) (.tmp 13) rfl w3.heap.size (cellsB d') rfl rfl 42 _ (Blk.new w3 42 (cellsB (List.replicate 32 0))) (by rw [HSD.out]; kernel_rfl) HZ.out (cellsB_one _) ?_)
  have R2 : ((w3.alloc (.cells (cellsB (List.replicate 32 0)) 42)).setRow w3.heap.size (cellsB d')).rangeAt w.heap.size 0 (Lib.byteCells d') := blk_range (((LB2.out.alloc _).rowFar (g' := w3.heap.size) (by have := Blk.lt LB2.out; omega)) _)
  have R3 : ((w3.alloc (.cells (cellsB (List.replicate 32 0)) 42)).setRow w3.heap.size (cellsB d')).rangeAt (w.heap.size + 1) 0 (Lib.byteCells e) := blk_range (((LB3.out.alloc _).rowFar (g' := w3.heap.size) (by have := Blk.lt LB3.out; omega)) _)
  have R6 : ((w3.alloc (.cells (cellsB (List.replicate 32 0)) 42)).setRow w3.heap.size (cellsB d')).rangeAt w3.heap.size 0 (Lib.byteCells d') := blk_range (Blk.row (Blk.new w3 42 (cellsB (List.replicate 32 0))) _)
  have RW : Hid (Below w.heap.size w ((w3.alloc (.cells (cellsB (List.replicate 32 0)) 42)).setRow w3.heap.size (cellsB d'))) := below_setRow (LW.out.alloc LW.out.size _) LW.out.size _
  change Code.wp _ _ _ _ ((w3.alloc (.cells (cellsB (List.replicate 32 0)) 42)).setRow w3.heap.size (cellsB d'))
  generalize ((w3.alloc (.cells (cellsB (List.replicate 32 0)) 42)).setRow w3.heap.size (cellsB d')) = w4 at *
  obtain ⟨g6, hg6⟩ : ∃ g6, Hid (g6 = w3.heap.size) := ⟨_, rfl⟩
  rw [← hg6.out] at R6 ⊢
  obtain ⟨g3, hg3⟩ : ∃ g3, Hid (g3 = w.heap.size + 1) := ⟨_, rfl⟩
  rw [← hg3.out] at R3 ⊢
  obtain ⟨g2, hg2⟩ : ∃ g2, Hid (g2 = w.heap.size) := ⟨_, rfl⟩
  rw [← hg2.out] at R2 RW ⊢
  have hu1 := Tryd.underlying41
  have hu2 := Tryd.underlying42
  have hi1 : (Tryd.prog.info? 41).map (·.size) = some (Lib.byteCells d').length := by rw [Lib.byteCells_length, HD.out]; kernel_rfl
  have hi2 : (Tryd.prog.info? 42).map (·.size) = some (Lib.byteCells d').length := by rw [Lib.byteCells_length, HD.out]; kernel_rfl
  have hi3 : (Tryd.prog.info? 41).map (·.size) = some (Lib.byteCells e).length := by rw [Lib.byteCells_length, HE.out]; kernel_rfl
  have hone1 := one_cells d'
  have hone2 := one_cells e
  have hl1 : (Lib.byteCells d').length = 32 := by rw [Lib.byteCells_length]; exact HD.out
  have hl2 : (Lib.byteCells e).length = 32 := by rw [Lib.byteCells_length]; exact HE.out
  have hShort : Hid (∀ W, (W.rangeAt g2 0 (Lib.byteCells d') ∧ W.rangeAt g3 0 (Lib.byteCells e) ∧ W.rangeAt g6 0 (Lib.byteCells d') ∧ Hid (Below g2 w W)) → Calls Tryd.prog 27 #[.agg (Lib.byteCells d').toArray] W fun r W' => ∃ u : ByteArray, r = .returned (.string u) ∧ u.size = 32 ∧ (W'.rangeAt g2 0 (Lib.byteCells d') ∧ W'.rangeAt g3 0 (Lib.byteCells e) ∧ W'.rangeAt g6 0 (Lib.byteCells d') ∧ Hid (Below g2 w W'))) :=
    fun W ⟨h1, h2, h3, h4⟩ => (short_str d' HD.out W).mono fun r W' ⟨u, hr, hu, hb⟩ => ⟨u, hr, hu, range_below h1 hb, range_below h2 hb, range_below h3 hb, below_then' h4.out hb hg2.out⟩
  have hText : Hid (∀ W, (W.rangeAt g2 0 (Lib.byteCells d') ∧ W.rangeAt g3 0 (Lib.byteCells e) ∧ W.rangeAt g6 0 (Lib.byteCells d') ∧ Hid (Below g2 w W)) → Calls Tryd.prog 26 #[.agg (Lib.byteCells e).toArray] W fun r W' => ∃ u : ByteArray, r = .returned (.string u) ∧ Hid (u.toList = enc e) ∧ (W'.rangeAt g2 0 (Lib.byteCells d') ∧ W'.rangeAt g3 0 (Lib.byteCells e) ∧ W'.rangeAt g6 0 (Lib.byteCells d') ∧ Hid (Below g2 w W'))) :=
    fun W ⟨h1, h2, h3, h4⟩ => (text_any e HE.out W).mono fun r W' ⟨u, hr, hu, hb⟩ => ⟨u, hr, hu, range_below h1 hb, range_below h2 hb, range_below h3 hb, below_then' h4.out hb hg2.out⟩
  obtain ⟨i0, hi0, hz0, hz1, hz2⟩ := info_parts info8'
  have hce5 : Tryd.prog.cellsOf 5 = 1 := by kernel_rfl
  have hq1 : ∀ W, (Op.equalIn 10000 42 (.agg (Lib.byteCells d').toArray) (.agg (Lib.byteCells d').toArray)).run Tryd.prog W = .ok true W := fun W => by
    have : (Op.equalIn 10000 42 (.agg (Lib.byteCells d').toArray) (.agg (Lib.byteCells d').toArray)).run Tryd.prog W = .ok (d' == d') W := run_equal_bytes Tryd.underlying42 hi0 hce5 Tryd.underlying5 Tryd.isAgg5 d' d' HD.out HD.out W
    simpa using this
  have hq2 : ∀ W, (Op.equalIn 10000 41 (.agg (Lib.byteCells d').toArray) (.agg (Lib.byteCells e).toArray)).run Tryd.prog W = .ok (d' == e) W := fun W =>
    run_equal_bytes Tryd.underlying41 hi0 hce5 Tryd.underlying5 Tryd.isAgg5 d' e HD.out HE.out W
  have hge1 : Tryd.prog.eqGuardType Tryd.prog.depth 41 = false := by kernel_rfl
  have hge2 : Tryd.prog.eqGuardType Tryd.prog.depth 42 = false := by kernel_rfl
  have hlen : s.size = 52 := by rw [size_of_list HS.out, enc_length, HD.out]
  clear hi0 hz0 hz1 hz2 hce5
  refine wp_region_held_drew (S := fun W => W.rangeAt g2 0 (Lib.byteCells d') ∧ W.rangeAt g3 0 (Lib.byteCells e) ∧ W.rangeAt g6 0 (Lib.byteCells d') ∧ Hid (Below g2 w W)) (by kernel_rfl) ⟨R2, R3, R6, below_drew1 RW.out⟩ (fun hHeld => ?_)
  refine takeO (i := 0) (v := .int .i64 0) rfl (by kernel_rfl) (by kernel_rfl) (by kernel_rfl) (fun _ _ _ h => h) (by assumption) (Or.inl ⟨by rfl, fun W hSW => by go_simp⟩) ?_
  simp only [Act.put, List.setIfInBounds_toArray, List.set_cons_zero, List.set_cons_succ]
  refine takeO (i := 1) (v := .bool true) rfl (by kernel_rfl) (by kernel_rfl) (by kernel_rfl) (fun _ _ _ h => h) (by assumption) (Or.inl ⟨by rfl, fun W hSW => by go_simp⟩) ?_
  simp only [Act.put, List.setIfInBounds_toArray, List.set_cons_zero, List.set_cons_succ]
  refine takeO (i := 2) (v := .bool true) rfl (by kernel_rfl) (by kernel_rfl) (by kernel_rfl) (fun _ _ _ h => h) (by assumption) (Or.inl ⟨by rfl, fun W hSW => by go_simp⟩) ?_
  simp only [Act.put, List.setIfInBounds_toArray, List.set_cons_zero, List.set_cons_succ]
  refine takeO (i := 3) (v := .agg (Lib.byteCells d').toArray) rfl (by kernel_rfl) (by kernel_rfl) (by kernel_rfl) (fun _ _ _ h => h) (by assumption) (yieldsIf_load_mid (by rfl) 42 (.tmp 6) rfl g6 0 rfl (Lib.byteCells d') _ (fun W h => h.2.2.1) hu2 rfl hi2) ?_
  simp only [Act.put, List.setIfInBounds_toArray, List.set_cons_zero, List.set_cons_succ]
  refine takeO (i := 4) (v := .agg (Lib.byteCells d').toArray) rfl (by kernel_rfl) (by kernel_rfl) (by kernel_rfl) (fun _ _ _ h => h) (by assumption) (yieldsIf_load_mid (by rfl) 41 (.tmp 2) rfl g2 0 rfl (Lib.byteCells d') _ (fun W h => h.1) hu1 rfl hi1) ?_
  simp only [Act.put, List.setIfInBounds_toArray, List.set_cons_zero, List.set_cons_succ]
  refine takeO (i := 5) (v := .bool true) rfl (by kernel_rfl) (by kernel_rfl) (by kernel_rfl) (fun _ _ _ h => h) (by assumption) (Or.inl ⟨by rfl, fun W hSW => by go_simp⟩) ?_
  simp only [Act.put, List.setIfInBounds_toArray, List.set_cons_zero, List.set_cons_succ]
  refine takeO (i := 6) (v := .bool true) rfl (by kernel_rfl) (by kernel_rfl) (by kernel_rfl) (fun _ _ _ h => h) (by assumption) (Or.inl ⟨by rfl, fun W hSW => by go_simp⟩) ?_
  simp only [Act.put, List.setIfInBounds_toArray, List.set_cons_zero, List.set_cons_succ]
  refine takeO (i := 7) (v := .bool true) rfl (by kernel_rfl) (by kernel_rfl) (by kernel_rfl) (fun _ _ _ h => h) (by assumption) (Or.inl ⟨by rfl, fun W hSW => by go_simp⟩) ?_
  simp only [Act.put, List.setIfInBounds_toArray, List.set_cons_zero, List.set_cons_succ]
  refine takeO (i := 8) (v := .string s) rfl (by kernel_rfl) (by kernel_rfl) (by kernel_rfl) (fun _ _ _ h => h) (by assumption) (Or.inl ⟨by rfl, fun W hSW => by go_simp⟩) ?_
  simp only [Act.put, List.setIfInBounds_toArray, List.set_cons_zero, List.set_cons_succ]
  refine takeO (i := 9) (v := .int .i64 52) rfl (by kernel_rfl) (by kernel_rfl) (by kernel_rfl) (fun _ _ _ h => h) (by assumption) (Or.inl ⟨by rfl, fun W hSW => by go_simp⟩) ?_
  simp only [Act.put, List.setIfInBounds_toArray, List.set_cons_zero, List.set_cons_succ]
  refine takeO (i := 10) (v := .bool true) rfl (by kernel_rfl) (by kernel_rfl) (by kernel_rfl) (fun _ _ _ h => h) (by assumption) (Or.inl ⟨by rfl, fun W hSW => by go_simp⟩) ?_
  simp only [Act.put, List.setIfInBounds_toArray, List.set_cons_zero, List.set_cons_succ]
  refine takeO (i := 11) (v := .bool true) rfl (by kernel_rfl) (by kernel_rfl) (by kernel_rfl) (fun _ _ _ h => h) (by assumption) (Or.inl ⟨by rfl, fun W hSW => by go_simp⟩) ?_
  simp only [Act.put, List.setIfInBounds_toArray, List.set_cons_zero, List.set_cons_succ]
  refine takeO (i := 12) (v := .bool true) rfl (by kernel_rfl) (by kernel_rfl) (by kernel_rfl) (fun _ _ _ h => h) (by assumption) (Or.inl ⟨by rfl, fun W hSW => by go_simp⟩) ?_
  simp only [Act.put, List.setIfInBounds_toArray, List.set_cons_zero, List.set_cons_succ]
  refine takeO (i := 13) (v := .agg (Lib.byteCells d').toArray) rfl (by kernel_rfl) (by kernel_rfl) (by kernel_rfl) (fun _ _ _ h => h) (by assumption) (yieldsIf_load_mid (by rfl) 41 (.tmp 2) rfl g2 0 rfl (Lib.byteCells d') _ (fun W h => h.1) hu1 rfl hi1) ?_
  simp only [Act.put, List.setIfInBounds_toArray, List.set_cons_zero, List.set_cons_succ]
  refine wpAnyH_ready (rs := [14]) (by kernel_rfl) (by simp) ?_
  refine AllReadyH.cons rfl (fun K hK => ?_) AllReadyH.nil
  go_simp
  go_at_call 27
  refine (hShort.out _ (by assumption)).mono ?_
  rintro r W' ⟨u, rfl, hu, hS⟩
  refine hK.out _ _ hS (fun hHeld => ?_)
  clear hK K
  try simp only [Act.put, List.setIfInBounds_toArray, List.set_cons_zero, List.set_cons_succ]
  refine takeO (i := 15) (v := .int .i64 32) rfl (by kernel_rfl) (by kernel_rfl) (by kernel_rfl) (fun _ _ _ h => h) (by assumption) (Or.inl ⟨by rfl, fun W hSW => by go_simp⟩) ?_
  simp only [Act.put, List.setIfInBounds_toArray, List.set_cons_zero, List.set_cons_succ]
  refine takeO (i := 16) (v := .bool true) rfl (by kernel_rfl) (by kernel_rfl) (by kernel_rfl) (fun _ _ _ h => h) (by assumption) (Or.inl ⟨by rfl, fun W hSW => by go_simp⟩) ?_
  simp only [Act.put, List.setIfInBounds_toArray, List.set_cons_zero, List.set_cons_succ]
  refine takeO (i := 17) (v := .bool true) rfl (by kernel_rfl) (by kernel_rfl) (by kernel_rfl) (fun _ _ _ h => h) (by assumption) (Or.inl ⟨by rfl, fun W hSW => by go_simp⟩) ?_
  simp only [Act.put, List.setIfInBounds_toArray, List.set_cons_zero, List.set_cons_succ]
  refine takeO (i := 18) (v := .bool true) rfl (by kernel_rfl) (by kernel_rfl) (by kernel_rfl) (fun _ _ _ h => h) (by assumption) (Or.inl ⟨by rfl, fun W hSW => by go_simp⟩) ?_
  simp only [Act.put, List.setIfInBounds_toArray, List.set_cons_zero, List.set_cons_succ]
  refine takeO (i := 19) (v := .string s) rfl (by kernel_rfl) (by kernel_rfl) (by kernel_rfl) (fun _ _ _ h => h) (by assumption) (Or.inl ⟨by rfl, fun W hSW => by go_simp⟩) ?_
  simp only [Act.put, List.setIfInBounds_toArray, List.set_cons_zero, List.set_cons_succ]
  refine takeO (i := 20) (v := .agg (Lib.byteCells e).toArray) rfl (by kernel_rfl) (by kernel_rfl) (by kernel_rfl) (fun _ _ _ h => h) (by assumption) (yieldsIf_load_mid (by rfl) 41 (.tmp 3) rfl g3 0 rfl (Lib.byteCells e) _ (fun W h => h.2.1) hu1 rfl hi3) ?_
  simp only [Act.put, List.setIfInBounds_toArray, List.set_cons_zero, List.set_cons_succ]
  refine takeO (i := 23) (v := .agg (Lib.byteCells d').toArray) rfl (by kernel_rfl) (by kernel_rfl) (by kernel_rfl) (fun _ _ _ h => h) (by assumption) (yieldsIf_load_mid (by rfl) 41 (.tmp 2) rfl g2 0 rfl (Lib.byteCells d') _ (fun W h => h.1) hu1 rfl hi1) ?_
  simp only [Act.put, List.setIfInBounds_toArray, List.set_cons_zero, List.set_cons_succ]
  refine takeO (i := 24) (v := .agg (Lib.byteCells e).toArray) rfl (by kernel_rfl) (by kernel_rfl) (by kernel_rfl) (fun _ _ _ h => h) (by assumption) (yieldsIf_load_mid (by rfl) 41 (.tmp 3) rfl g3 0 rfl (Lib.byteCells e) _ (fun W h => h.2.1) hu1 rfl hi3) ?_
  simp only [Act.put, List.setIfInBounds_toArray, List.set_cons_zero, List.set_cons_succ]
  refine takeO (i := 25) (v := .bool (d' == e)) rfl (by kernel_rfl) (by kernel_rfl) (by kernel_rfl) (fun _ _ _ h => h) (by assumption) (Or.inl ⟨by rfl, fun W hSW => by go_simp⟩) ?_
  simp only [Act.put, List.setIfInBounds_toArray, List.set_cons_zero, List.set_cons_succ]
  refine wpAnyH_ready (rs := [21]) (by kernel_rfl) (by simp) ?_
  refine AllReadyH.cons rfl (fun K hK => ?_) AllReadyH.nil
  go_simp
  go_at_call 26
  refine (hText.out _ (by assumption)).mono ?_
  rintro r W' ⟨u2, rfl, hu2', hS⟩
  refine hK.out _ _ hS (fun hHeld => ?_)
  clear hK K
  try simp only [Act.put, List.setIfInBounds_toArray, List.set_cons_zero, List.set_cons_succ]
  refine takeO (i := 22) (v := .bool (s.toList == u2.toList)) rfl (by kernel_rfl) (by kernel_rfl) (by kernel_rfl) (fun _ _ _ h => h) (by assumption) (Or.inl ⟨by rfl, fun W hSW => by go_simp⟩) ?_
  simp only [Act.put, List.setIfInBounds_toArray, List.set_cons_zero, List.set_cons_succ]
  refine takeO (i := 26) (v := .bool ((s.toList == u2.toList) == (d' == e))) rfl (by kernel_rfl) (by kernel_rfl) (by kernel_rfl) (fun _ _ _ h => h) (by assumption) (Or.inl ⟨by rfl, fun W hSW => by go_simp⟩) ?_
  simp only [Act.put, List.setIfInBounds_toArray, List.set_cons_zero, List.set_cons_succ]
  refine takeO (i := 27) (v := .bool ((s.toList == u2.toList) == (d' == e))) rfl (by kernel_rfl) (by kernel_rfl) (by kernel_rfl) (fun _ _ _ h => h) (by assumption) (Or.inl ⟨by rfl, fun W hSW => by go_simp⟩) ?_
  simp only [Act.put, List.setIfInBounds_toArray, List.set_cons_zero, List.set_cons_succ]
  refine takeO (i := 28) (v := .bool ((s.toList == u2.toList) == (d' == e))) rfl (by kernel_rfl) (by kernel_rfl) (by kernel_rfl) (fun _ _ _ h => h) (by assumption) (Or.inl ⟨by rfl, fun W hSW => by go_simp⟩) ?_
  simp only [Act.put, List.setIfInBounds_toArray, List.set_cons_zero, List.set_cons_succ]
  refine wpAnyH_done (by kernel_rfl) ?_ _
  have hfin : ((s.toList == u2.toList) == (d' == e)) = true := by rw [HS.out, hu2'.out, enc_beq]; simp
  rw [hfin]
  have HF := Lib.hid hS
  clear hS hHeld
  go_wp2_with fail
  go_ret
  exact ⟨rfl, by have h := HF.out.2.2.2.out; rw [hg2.out] at h; exact h⟩
end Go.Proofs.YtmaknbcfnigbmaaDoor
