/- DigestParses, walked. -/
import Derived.Test.YtmaknbcfnigbmaaDoorWalkDBack
import Derived.Test.YtmaknbcfnigbmaaDoorRefB
namespace Go.Proofs.YtmaknbcfnigbmaaDoor
open Go.RowKit Sig Go.Proofs.YtmaknbcfnigbmaaDoorW.PrintWords

theorem below_blk {w w1 : World} {g : Nat} {t : TypeId} {cs : Array Value} (h : Hid (Blk w g t cs)) (hb : Below w.heap.size w w1) : Hid (Blk w1 g t cs) := h.out.below hb (Blk.lt h.out)
theorem shape_of {w : World} {g : Nat} {t : TypeId} {cs : Array Value} (h : Blk w g t cs) (hs : cs.size = 32) : w.shape? g = some (t, 32) := by
  unfold Blk at h
  unfold World.shape?
  rw [h]
  simp [hs]
theorem str_list (l : List UInt8) : (⟨l.toArray⟩ : ByteArray).toList = l := ByteArray.toList_eq _
theorem short_list (l : List UInt8) (hl : l.length = 32) (w : World) :
    Calls Tryd.prog 27 #[.agg (cellsB l)] w fun e w' => ∃ u : ByteArray, e = .returned (.string u) ∧ u.toList = enc (fold l 32) ∧ Below w.heap.size w w' :=
  (short_any l hl w).mono fun _ _ ⟨h1, h2⟩ => ⟨_, h1, str_list (enc (fold l 32)), h2⟩
theorem refEncode_32 (l : List UInt8) (hl : l.length = 32) (g : Nat) (w : World) (hB : Blk w g 41 (cellsB l)) :
    Calls Tryd.prog 16 #[.slice (some ⟨g, 0, none⟩) 32 32] w fun e w' => ∃ s : ByteArray, e = .returned (.string s) ∧ s.toList = enc l ∧ Below w.heap.size w w' := by
  have he := refEncode_str (some ⟨g, 0, none⟩) l 32 w (Blk.reads hB) (by omega) (by omega)
  rw [hl] at he
  exact he
theorem ParsePost.same {s : ByteArray} {d d' : List UInt8} {n n' : Int} (h : (enc d = s.data.toList ∧ n = 0) ∨ ((∀ b, b.length = 32 → enc b ≠ s.data.toList) ∧ d = List.replicate 32 0 ∧ n = 10)) (hd : d.length = 32)
    (h' : (enc d' = s.data.toList ∧ n' = 0) ∨ ((∀ b, b.length = 32 → enc b ≠ s.data.toList) ∧ d' = List.replicate 32 0 ∧ n' = 10)) (hd' : d'.length = 32) : d' = d ∧ n' = n := by
  rcases h with ⟨h1, h2⟩ | ⟨h1, h2, h3⟩ <;> rcases h' with ⟨k1, k2⟩ | ⟨k1, k2, k3⟩
  · exact ⟨enc_inj _ _ (k1.trans h1.symm), k2.trans h2.symm⟩
  · exact absurd h1 (k1 d hd)
  · exact absurd k1 (h1 d' hd')
  · exact ⟨k2.trans h2.symm, k3.trans h3.symm⟩

set_option maxHeartbeats 2000000 in
set_option maxRecDepth 100000 in
theorem dparses_any (s : ByteArray) (d : List UInt8) (hd : d.length = 32) (hs : s.size ≤ 1048576) (w : World) (hT : Tails w) :
    Calls Tryd.prog 7 #[.string s, .agg (cellsB d)] w fun r w' => r = .returned (.bool true) ∧ Below w.heap.size w w' := by
  have HT := Lib.hid hT
  have HD := Lib.hid hd
  have LS := Lib.hid hs
  have HSD : Hid ((cellsB d).size = 32) := by rw [Hid, cellsB_size]; exact hd
  have HB := Lib.hid (Blk.new w 41 (cellsB d))
  have HW := Lib.hid ((Below.refl w.heap.size w).alloc (Nat.le_refl _) (.cells (cellsB d) 41))
  clear hT hd hs
  go_enter Tryd.func7, Tryd.ntmps7
  go_wp2_with fail
  change Calls _ _ _ (w.alloc (.cells (cellsB d) 41)) _
  generalize w.alloc (.cells (cellsB d) 41) = w1 at *
  refine (parse_any s w1 (HT.out.below HW.out) (by have := LS.out; omega)).mono ?_
  rintro r w2 ⟨hb, x, n, hx, rfl, hc⟩
  have HC := Lib.hid hc
  have HX := Lib.hid hx
  have HSX : Hid ((cellsB x).size = 32) := by rw [Hid, cellsB_size]; exact hx
  have HZ : Hid ((cellsB (List.replicate 32 0)).size = (cellsB x).size) := by rw [HSX.out]; rfl
  have KB := Lib.hid (HB.out.below hb (Blk.lt HB.out))
  have KW := Lib.hid (below_step' HW.out hb)
  clear hb hc hx HB HW
  go_wp2_with (refine wpList_store_row rfl 42 (.tmp 5) (.tmp 12) rfl w2.heap.size (cellsB x) rfl rfl 42 _ (Blk.new w2 42 (cellsB (List.replicate 32 0))) (by rw [HSX.out]; kernel_rfl) HZ.out (cellsB_one _) ?_)
  have MB := Lib.hid ((KB.out.alloc (.cells (cellsB (List.replicate 32 0)) 42)).rowFar (g' := w2.heap.size) (by have := Blk.lt KB.out; omega) (cellsB x))
  have MX := Lib.hid (Blk.row (Blk.new w2 42 (cellsB (List.replicate 32 0))) (cellsB x))
  have MW := Lib.hid (below_setRow (KW.out.alloc KW.out.size (.cells (cellsB (List.replicate 32 0)) 42)) KW.out.size (cellsB x))
  change Calls _ _ _ ((w2.alloc (.cells (cellsB (List.replicate 32 0)) 42)).setRow w2.heap.size (cellsB x)) _
  obtain ⟨g5, hg5⟩ : ∃ g, Hid (g = w2.heap.size) := ⟨_, rfl⟩
  generalize hw3 : (w2.alloc (.cells (cellsB (List.replicate 32 0)) 42)).setRow w2.heap.size (cellsB x) = w3 at *
  rw [← hg5.out] at MX ⊢
  clear hw3
  refine (refParse_any s w3 (by have := LS.out; omega)).mono ?_
  rintro r w4 ⟨hb, y, m, hy, rfl, hc⟩
  obtain ⟨rfl, rfl⟩ := ParsePost.same HC.out HX.out hc hy
  have NB := Lib.hid (MB.out.below hb (Blk.lt MB.out))
  have NX := Lib.hid (MX.out.below hb (Blk.lt MX.out))
  have NW := Lib.hid (below_step' MW.out hb)
  clear hb hc hy HC MB MX MW KB KW
  go_upto_region 3 with (refine wpList_store_row rfl 41 (.tmp 7) (.tmp 17) rfl w4.heap.size (cellsB y) rfl rfl 41 _ (Blk.new w4 41 (cellsB (List.replicate 32 0))) (by rw [HSX.out]; kernel_rfl) HZ.out (cellsB_one _) ?_)
  have RB := Lib.hid ((NB.out.alloc (.cells (cellsB (List.replicate 32 0)) 41)).rowFar (g' := w4.heap.size) (by have := Blk.lt NB.out; omega) (cellsB y))
  have RX := Lib.hid ((NX.out.alloc (.cells (cellsB (List.replicate 32 0)) 41)).rowFar (g' := w4.heap.size) (by have := Blk.lt NX.out; omega) (cellsB y))
  have RY := Lib.hid (Blk.row (Blk.new w4 41 (cellsB (List.replicate 32 0))) (cellsB y))
  have RW := Lib.hid (below_setRow (NW.out.alloc NW.out.size (.cells (cellsB (List.replicate 32 0)) 41)) NW.out.size (cellsB y))
  change Code.wp _ _ _ _ ((w4.alloc (.cells (cellsB (List.replicate 32 0)) 41)).setRow w4.heap.size (cellsB y))
  obtain ⟨g7, hg7⟩ : ∃ g, Hid (g = w4.heap.size) := ⟨_, rfl⟩
  generalize hw5 : (w4.alloc (.cells (cellsB (List.replicate 32 0)) 41)).setRow w4.heap.size (cellsB y) = w5 at *
  rw [← hg7.out] at RY ⊢
  clear hw5
  obtain ⟨g3, hg3⟩ : ∃ g, Hid (g = w.heap.size) := ⟨_, rfl⟩
  rw [← hg3.out] at RB RW ⊢
  have hu1 := Tryd.underlying41
  have hu2 := Tryd.underlying42
  have hi1 : (Tryd.prog.info? 41).map (·.size) = some (Lib.byteCells d).length := by rw [Lib.byteCells_length, HD.out]; kernel_rfl
  have hi2 : (Tryd.prog.info? 42).map (·.size) = some (Lib.byteCells y).length := by rw [Lib.byteCells_length, HX.out]; kernel_rfl
  have hi3 : (Tryd.prog.info? 41).map (·.size) = some (Lib.byteCells y).length := by rw [Lib.byteCells_length, HX.out]; kernel_rfl
  have hText : Hid (∀ W, (Hid (Blk W g3 41 (cellsB d)) ∧ Hid (Blk W g5 42 (cellsB y)) ∧ Hid (Blk W g7 41 (cellsB y)) ∧ Hid (Below g3 w W)) → Calls Tryd.prog 26 #[.agg (Lib.byteCells d).toArray] W fun r W' => ∃ u : ByteArray, r = .returned (.string u) ∧ Hid (u.toList = enc d) ∧ (Hid (Blk W' g3 41 (cellsB d)) ∧ Hid (Blk W' g5 42 (cellsB y)) ∧ Hid (Blk W' g7 41 (cellsB y)) ∧ Hid (Below g3 w W'))) :=
    fun W ⟨h1, h2, h3, h4⟩ => (text_any d HD.out W).mono fun r W' ⟨u, hr, hu, hb⟩ => ⟨u, hr, hu, ⟨below_blk h1 hb, below_blk h2 hb, below_blk h3 hb, below_then' h4.out hb hg3.out⟩⟩
  have hEnc : Hid (∀ W, (Hid (Blk W g3 41 (cellsB d)) ∧ Hid (Blk W g5 42 (cellsB y)) ∧ Hid (Blk W g7 41 (cellsB y)) ∧ Hid (Below g3 w W)) → Calls Tryd.prog 16 #[.slice (some ⟨g3, 0, none⟩) 32 32] W fun r W' => ∃ u : ByteArray, r = .returned (.string u) ∧ Hid (u.toList = enc d) ∧ (Hid (Blk W' g3 41 (cellsB d)) ∧ Hid (Blk W' g5 42 (cellsB y)) ∧ Hid (Blk W' g7 41 (cellsB y)) ∧ Hid (Below g3 w W'))) :=
    fun W ⟨h1, h2, h3, h4⟩ => (refEncode_32 d HD.out g3 W h1.out).mono fun r W' ⟨u, hr, hu, hb⟩ => ⟨u, hr, hu, ⟨below_blk h1 hb, below_blk h2 hb, below_blk h3 hb, below_then' h4.out hb hg3.out⟩⟩
  have hShort : Hid (∀ W, (Hid (Blk W g3 41 (cellsB d)) ∧ Hid (Blk W g5 42 (cellsB y)) ∧ Hid (Blk W g7 41 (cellsB y)) ∧ Hid (Below g3 w W)) → Calls Tryd.prog 27 #[.agg (Lib.byteCells d).toArray] W fun r W' => ∃ u : ByteArray, r = .returned (.string u) ∧ Hid (u.toList = enc (fold d 32)) ∧ (Hid (Blk W' g3 41 (cellsB d)) ∧ Hid (Blk W' g5 42 (cellsB y)) ∧ Hid (Blk W' g7 41 (cellsB y)) ∧ Hid (Below g3 w W'))) :=
    fun W ⟨h1, h2, h3, h4⟩ => (short_list d HD.out W).mono fun r W' ⟨u, hr, hu, hb⟩ => ⟨u, hr, hu, ⟨below_blk h1 hb, below_blk h2 hb, below_blk h3 hb, below_then' h4.out hb hg3.out⟩⟩
  have hRefShort : Hid (∀ W, (Hid (Blk W g3 41 (cellsB d)) ∧ Hid (Blk W g5 42 (cellsB y)) ∧ Hid (Blk W g7 41 (cellsB y)) ∧ Hid (Below g3 w W)) → Calls Tryd.prog 28 #[.agg (Lib.byteCells d).toArray] W fun r W' => ∃ u : ByteArray, r = .returned (.string u) ∧ Hid (u.toList = enc (fold d 32)) ∧ (Hid (Blk W' g3 41 (cellsB d)) ∧ Hid (Blk W' g5 42 (cellsB y)) ∧ Hid (Blk W' g7 41 (cellsB y)) ∧ Hid (Below g3 w W'))) :=
    fun W ⟨h1, h2, h3, h4⟩ => (refShort_any d HD.out W).mono fun r W' ⟨u, hr, hu, hb⟩ => ⟨u, hr, hu, ⟨below_blk h1 hb, below_blk h2 hb, below_blk h3 hb, below_then' h4.out hb hg3.out⟩⟩
  obtain ⟨i0, hi0, hz0, hz1, hz2⟩ := info_parts info8'
  have hce5 : Tryd.prog.cellsOf 5 = 1 := by kernel_rfl
  have hq1 : ∀ W, (Op.equalIn 10000 42 (.agg (Lib.byteCells y).toArray) (.agg (Lib.byteCells y).toArray)).run Tryd.prog W = .ok true W := fun W => by
    have : (Op.equalIn 10000 42 (.agg (Lib.byteCells y).toArray) (.agg (Lib.byteCells y).toArray)).run Tryd.prog W = .ok (y == y) W := run_equal_bytes Tryd.underlying42 hi0 hce5 Tryd.underlying5 Tryd.isAgg5 y y HX.out HX.out W
    simpa using this
  have hge2 : Tryd.prog.eqGuardType Tryd.prog.depth 42 = false := by kernel_rfl
  clear hi0 hz0 hz1 hz2 hce5
  refine wp_region_held_drew (S := fun W => (Hid (Blk W g3 41 (cellsB d)) ∧ Hid (Blk W g5 42 (cellsB y)) ∧ Hid (Blk W g7 41 (cellsB y)) ∧ Hid (Below g3 w W))) (by kernel_rfl) ⟨RB.out, RX.out, RY.out, below_drew1 RW.out⟩ (fun hHeld => ?_)
  refine takeO (i := 0) (v := .agg (Lib.byteCells y).toArray) rfl (by kernel_rfl) (by kernel_rfl) (by kernel_rfl) (fun _ _ _ h => h) (by assumption) (yieldsIf_load_mid (by rfl) 42 (.tmp 5) rfl g5 0 rfl (Lib.byteCells y) _ (fun W h => blk_range h.2.1.out) hu2 rfl hi2) ?_
  simp only [Act.put, List.setIfInBounds_toArray, List.set_cons_zero, List.set_cons_succ]
  refine takeO (i := 1) (v := .agg (Lib.byteCells y).toArray) rfl (by kernel_rfl) (by kernel_rfl) (by kernel_rfl) (fun _ _ _ h => h) (by assumption) (yieldsIf_load_mid (by rfl) 41 (.tmp 7) rfl g7 0 rfl (Lib.byteCells y) _ (fun W h => blk_range h.2.2.1.out) hu1 rfl hi3) ?_
  simp only [Act.put, List.setIfInBounds_toArray, List.set_cons_zero, List.set_cons_succ]
  refine takeO (i := 2) (v := .bool true) rfl (by kernel_rfl) (by kernel_rfl) (by kernel_rfl) (fun _ _ _ h => h) (by assumption) (Or.inl ⟨by rfl, fun W hSW => by go_simp⟩) ?_
  simp only [Act.put, List.setIfInBounds_toArray, List.set_cons_zero, List.set_cons_succ]
  refine takeO (i := 3) (v := .bool true) rfl (by kernel_rfl) (by kernel_rfl) (by kernel_rfl) (fun _ _ _ h => h) (by assumption) (Or.inl ⟨by rfl, fun W hSW => by go_simp⟩) ?_
  simp only [Act.put, List.setIfInBounds_toArray, List.set_cons_zero, List.set_cons_succ]
  refine takeO (i := 4) (v := .int .i64 m) rfl (by kernel_rfl) (by kernel_rfl) (by kernel_rfl) (fun _ _ _ h => h) (by assumption) (Or.inl ⟨by rfl, fun W hSW => by go_simp⟩) ?_
  simp only [Act.put, List.setIfInBounds_toArray, List.set_cons_zero, List.set_cons_succ]
  refine takeO (i := 5) (v := .int .i64 m) rfl (by kernel_rfl) (by kernel_rfl) (by kernel_rfl) (fun _ _ _ h => h) (by assumption) (Or.inl ⟨by rfl, fun W hSW => by go_simp⟩) ?_
  simp only [Act.put, List.setIfInBounds_toArray, List.set_cons_zero, List.set_cons_succ]
  refine takeO (i := 6) (v := .bool true) rfl (by kernel_rfl) (by kernel_rfl) (by kernel_rfl) (fun _ _ _ h => h) (by assumption) (Or.inl ⟨by rfl, fun W hSW => by go_simp⟩) ?_
  simp only [Act.put, List.setIfInBounds_toArray, List.set_cons_zero, List.set_cons_succ]
  refine takeO (i := 7) (v := .bool true) rfl (by kernel_rfl) (by kernel_rfl) (by kernel_rfl) (fun _ _ _ h => h) (by assumption) (Or.inl ⟨by rfl, fun W hSW => by go_simp⟩) ?_
  simp only [Act.put, List.setIfInBounds_toArray, List.set_cons_zero, List.set_cons_succ]
  refine takeO (i := 8) (v := .bool true) rfl (by kernel_rfl) (by kernel_rfl) (by kernel_rfl) (fun _ _ _ h => h) (by assumption) (Or.inl ⟨by rfl, fun W hSW => by go_simp⟩) ?_
  simp only [Act.put, List.setIfInBounds_toArray, List.set_cons_zero, List.set_cons_succ]
  refine takeO (i := 9) (v := .bool true) rfl (by kernel_rfl) (by kernel_rfl) (by kernel_rfl) (fun _ _ _ h => h) (by assumption) (Or.inl ⟨by rfl, fun W hSW => by go_simp⟩) ?_
  simp only [Act.put, List.setIfInBounds_toArray, List.set_cons_zero, List.set_cons_succ]
  refine takeO (i := 10) (v := .bool true) rfl (by kernel_rfl) (by kernel_rfl) (by kernel_rfl) (fun _ _ _ h => h) (by assumption) (Or.inl ⟨by rfl, fun W hSW => by go_simp⟩) ?_
  simp only [Act.put, List.setIfInBounds_toArray, List.set_cons_zero, List.set_cons_succ]
  refine takeO (i := 11) (v := .agg (Lib.byteCells d).toArray) rfl (by kernel_rfl) (by kernel_rfl) (by kernel_rfl) (fun _ _ _ h => h) (by assumption) (yieldsIf_load_mid (by rfl) 41 (.tmp 3) rfl g3 0 rfl (Lib.byteCells d) _ (fun W h => blk_range h.1.out) hu1 rfl hi1) ?_
  simp only [Act.put, List.setIfInBounds_toArray, List.set_cons_zero, List.set_cons_succ]
  refine takeO (i := 13) (v := .slice (some ⟨g3, 0, none⟩) 32 32) rfl (by kernel_rfl) (by kernel_rfl) (by kernel_rfl) (fun _ _ _ h => h) (by assumption) (Or.inl ⟨by rfl, fun W hSW => by have hsh := shape_of hSW.1.out HSD.out; go_simp⟩) ?_
  simp only [Act.put, List.setIfInBounds_toArray, List.set_cons_zero, List.set_cons_succ]
  refine wpAnyH_ready (rs := [12]) (by kernel_rfl) (by simp) ?_
  refine AllReadyH.cons rfl (fun K hK => ?_) AllReadyH.nil
  go_simp
  go_at_call 26
  refine (hText.out _ (by assumption)).mono ?_
  rintro r W' ⟨u1, rfl, hu1', hS⟩
  refine hK.out _ _ hS (fun hHeld => ?_)
  clear hK K
  try simp only [Act.put, List.setIfInBounds_toArray, List.set_cons_zero, List.set_cons_succ]
  refine wpAnyH_ready (rs := [14]) (by kernel_rfl) (by simp) ?_
  refine AllReadyH.cons rfl (fun K hK => ?_) AllReadyH.nil
  go_simp
  go_at_call 16
  refine (hEnc.out _ (by assumption)).mono ?_
  rintro r W' ⟨u2, rfl, hu2', hS⟩
  refine hK.out _ _ hS (fun hHeld => ?_)
  clear hK K
  try simp only [Act.put, List.setIfInBounds_toArray, List.set_cons_zero, List.set_cons_succ]
  have hte : (u1.toList == u2.toList) = true := by rw [hu1'.out, hu2'.out]; simp
  refine takeO (i := 15) (v := .bool true) rfl (by kernel_rfl) (by kernel_rfl) (by kernel_rfl) (fun _ _ _ h => h) (by assumption) (Or.inl ⟨by rfl, fun W hSW => by go_simp⟩) ?_
  simp only [Act.put, List.setIfInBounds_toArray, List.set_cons_zero, List.set_cons_succ]
  refine takeO (i := 16) (v := .bool true) rfl (by kernel_rfl) (by kernel_rfl) (by kernel_rfl) (fun _ _ _ h => h) (by assumption) (Or.inl ⟨by rfl, fun W hSW => by go_simp⟩) ?_
  simp only [Act.put, List.setIfInBounds_toArray, List.set_cons_zero, List.set_cons_succ]
  refine takeO (i := 17) (v := .bool true) rfl (by kernel_rfl) (by kernel_rfl) (by kernel_rfl) (fun _ _ _ h => h) (by assumption) (Or.inl ⟨by rfl, fun W hSW => by go_simp⟩) ?_
  simp only [Act.put, List.setIfInBounds_toArray, List.set_cons_zero, List.set_cons_succ]
  refine takeO (i := 18) (v := .agg (Lib.byteCells d).toArray) rfl (by kernel_rfl) (by kernel_rfl) (by kernel_rfl) (fun _ _ _ h => h) (by assumption) (yieldsIf_load_mid (by rfl) 41 (.tmp 3) rfl g3 0 rfl (Lib.byteCells d) _ (fun W h => blk_range h.1.out) hu1 rfl hi1) ?_
  simp only [Act.put, List.setIfInBounds_toArray, List.set_cons_zero, List.set_cons_succ]
  refine takeO (i := 20) (v := .agg (Lib.byteCells d).toArray) rfl (by kernel_rfl) (by kernel_rfl) (by kernel_rfl) (fun _ _ _ h => h) (by assumption) (yieldsIf_load_mid (by rfl) 41 (.tmp 3) rfl g3 0 rfl (Lib.byteCells d) _ (fun W h => blk_range h.1.out) hu1 rfl hi1) ?_
  simp only [Act.put, List.setIfInBounds_toArray, List.set_cons_zero, List.set_cons_succ]
  refine wpAnyH_ready (rs := [19]) (by kernel_rfl) (by simp) ?_
  refine AllReadyH.cons rfl (fun K hK => ?_) AllReadyH.nil
  go_simp
  go_at_call 27
  refine (hShort.out _ (by assumption)).mono ?_
  rintro r W' ⟨u3, rfl, hu3', hS⟩
  refine hK.out _ _ hS (fun hHeld => ?_)
  clear hK K
  try simp only [Act.put, List.setIfInBounds_toArray, List.set_cons_zero, List.set_cons_succ]
  refine wpAnyH_ready (rs := [21]) (by kernel_rfl) (by simp) ?_
  refine AllReadyH.cons rfl (fun K hK => ?_) AllReadyH.nil
  go_simp
  go_at_call 28
  refine (hRefShort.out _ (by assumption)).mono ?_
  rintro r W' ⟨u4, rfl, hu4', hS⟩
  refine hK.out _ _ hS (fun hHeld => ?_)
  clear hK K
  try simp only [Act.put, List.setIfInBounds_toArray, List.set_cons_zero, List.set_cons_succ]
  have hse : (u3.toList == u4.toList) = true := by rw [hu3'.out, hu4'.out]; simp
  refine takeO (i := 22) (v := .bool true) rfl (by kernel_rfl) (by kernel_rfl) (by kernel_rfl) (fun _ _ _ h => h) (by assumption) (Or.inl ⟨by rfl, fun W hSW => by go_simp⟩) ?_
  simp only [Act.put, List.setIfInBounds_toArray, List.set_cons_zero, List.set_cons_succ]
  refine takeO (i := 23) (v := .bool true) rfl (by kernel_rfl) (by kernel_rfl) (by kernel_rfl) (fun _ _ _ h => h) (by assumption) (Or.inl ⟨by rfl, fun W hSW => by go_simp⟩) ?_
  simp only [Act.put, List.setIfInBounds_toArray, List.set_cons_zero, List.set_cons_succ]
  refine takeO (i := 24) (v := .bool true) rfl (by kernel_rfl) (by kernel_rfl) (by kernel_rfl) (fun _ _ _ h => h) (by assumption) (Or.inl ⟨by rfl, fun W hSW => by go_simp⟩) ?_
  simp only [Act.put, List.setIfInBounds_toArray, List.set_cons_zero, List.set_cons_succ]
  refine wpAnyH_done (by kernel_rfl) ?_ _
  have HF := Lib.hid hS
  clear hS hHeld
  go_wp2_with fail
  go_ret
  exact ⟨rfl, by have h := HF.out.2.2.2.out; rw [hg3.out] at h; exact h⟩
end Go.Proofs.YtmaknbcfnigbmaaDoor
