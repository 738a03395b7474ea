/- digest.add, walked. -/
import Derived.Test.YtmaknbcfnigbmaaDoorNum
import Derived.Test.YtmaknbcfnigbmaaDoorMem
import Derived.Laws.Tables
import Derived.Laws.CopyOwn
namespace Go.Proofs.YtmaknbcfnigbmaaDoor
open Go.RowKit Sha
set_option linter.unusedSimpArgs false

theorem blk_rangeW {w : World} {g : Nat} {t : TypeId} {l : List UInt32} (h : Blk w g t (cellsW l)) : w.rangeAt g 0 (l.map fun b => Value.int .u32 (b.toNat : Int)) := by
  intro j v hj
  rw [Nat.zero_add, h.cell]
  simpa [cellsW] using hj

theorem t_int (k w e f g h : UInt32) : (((h.toNat : Int) + ((xo (xo (rr 6 e) (rr 11 e)) (rr 25 e)).toNat : Int) + bits .xor .u32 (bits .and .u32 (e.toNat : Int) (f.toNat : Int)) (bits .andNot .u32 (g.toNat : Int) (e.toNat : Int)) + (k.toNat : Int)) % 4294967296 + (w.toNat : Int)) % 4294967296 = ((tOf k w e f g h).toNat : Int) := by
  rw [an_int, bn_int, xo_int', ad4_int, ad_int]; rfl
theorem u_int (a b c : UInt32) : (((xo (xo (rr 2 a) (rr 13 a)) (rr 22 a)).toNat : Int) + bits .or .u32 (bits .and .u32 (a.toNat : Int) (b.toNat : Int)) (bits .and .u32 (c.toNat : Int) (bits .or .u32 (a.toNat : Int) (b.toNat : Int)))) % 4294967296 = ((uOf a b c).toNat : Int) := by
  rw [an_int, oo_int, an_int, oo_int, ad_int]; rfl
/-- The table of the cubes' roots. -/
def Cubes (w : World) : Prop := ∀ i, i < 64 → w.cell? ⟨3, i, none⟩ = some (.int .u32 ((cubes.getD i 0).toNat : Int))
theorem Cubes.below {w w1 : World} (h : Cubes w) (hb : Below w.heap.size w w1) : Cubes w1 :=
  fun r hr => (hb.cell (World.block_lt_of_cell? w _ (h r hr))).trans (h r hr)
/-- The sums that are laid after k rounds. -/
def laidA (s x : List UInt32) (k : Nat) : List UInt32 := List.zipWith ad (s.take k) (x.take k) ++ s.drop k
theorem laidA_length (s x : List UInt32) (k : Nat) (hs : s.length = 8) (hx : x.length = 8) (hk : k ≤ 8) : (laidA s x k).length = 8 := by
  simp [laidA, hs, hx]; omega
theorem laidA_at (s x : List UInt32) (k : Nat) (hs : s.length = 8) (hx : x.length = 8) (hk : k < 8) : (laidA s x k).getD k 0 = s.getD k 0 := by
  unfold laidA
  rw [List.getD_eq_getElem?_getD, List.getElem?_append_right (by simp; omega), List.getD_eq_getElem?_getD]
  simp [hs, hx]
  congr 2
  omega
theorem laidA_step (s x : List UInt32) (k : Nat) (hs : s.length = 8) (hx : x.length = 8) (hk : k < 8) : (laidA s x k).set k (ad (s.getD k 0) (x.getD k 0)) = laidA s x (k + 1) := by
  have h1 : k < s.length := by omega
  have h2 : k < x.length := by omega
  have hl : (List.zipWith ad (s.take k) (x.take k)).length = k := by simp [hs, hx]; omega
  unfold laidA
  rw [List.set_append_right _ _ (by omega), hl, Nat.sub_self, List.drop_eq_getElem_cons h1, List.set_cons_zero, List.take_succ_eq_append_getElem h1, List.take_succ_eq_append_getElem h2, List.zipWith_append (by simp [hs, hx]), List.append_assoc]
  simp [h1, h2]
theorem laidA_full (s x : List UInt32) (hs : s.length = 8) (hx : x.length = 8) : laidA s x 8 = List.zipWith ad s x := by
  unfold laidA
  rw [List.take_of_length_le (by omega), List.take_of_length_le (by omega), List.drop_eq_nil_of_le (by omega), List.append_nil]
theorem copy_src {W : World} {g6 : Nat} {t : TypeId} {a b c d e f g h : UInt32} (H : Blk W g6 t (cellsW [a, b, c, d, e, f, g, h])) :
    ∀ j v, (cellsW [a, b, c, d, e, f, g]).toList[j]? = some v → W.cell? ((⟨g6, 0, none⟩ : Addr).add j) = some v := by
  intro j v hj
  rw [Addr.add_mid, Nat.zero_add, H.cell]
  have ee : (cellsW [a, b, c, d, e, f, g, h]) = ((cellsW [a, b, c, d, e, f, g]).toList ++ [Value.int .u32 (h.toNat : Int)]).toArray := by simp [cellsW]
  rw [ee, List.getElem?_toArray, List.getElem?_append_left]
  · exact hj
  · rcases Nat.lt_or_ge j (cellsW [a, b, c, d, e, f, g]).toList.length with hl | hl
    · exact hl
    · rw [List.getElem?_eq_none hl] at hj; cases hj
theorem copy_row (a b c d e f g h : UInt32) : ((cellsW [a, b, c, d, e, f, g, h]).toList.take 1 ++ ((cellsW [a, b, c, d, e, f, g]).toList ++ (cellsW [a, b, c, d, e, f, g, h]).toList.drop (1 + (cellsW [a, b, c, d, e, f, g]).toList.length))).toArray = cellsW [a, a, b, c, d, e, f, g] := by
  simp [cellsW]
theorem copy_one (a b c d e f g : UInt32) : ∀ v ∈ (cellsW [a, b, c, d, e, f, g]).toList, v.oneCell' = true := by
  intro v hv
  simp [cellsW] at hv
  rcases hv with rfl | rfl | rfl | rfl | rfl | rfl | rfl <;> rfl
/-- A callee that leaves the world alone, met behind some draws already. -/
theorem quiet_more {P : Program} {f : FuncId} {args : Array Value} {w : World} {m n : Nat} {v : Value}
    (h : ∀ W, Calls P f args W fun e w' => e = .returned v ∧ w' = W) : Calls P f args (w.drewN (m + n)) fun e w' => e = .returned v ∧ ∃ j, w' = w.drewN (m + j) :=
  (h _).mono fun _ _ ⟨h1, h2⟩ => ⟨h1, n, h2⟩
/-- What stands while the two arrays are laid. -/
def AddS (s : List UInt32) (w W : World) : Prop :=
  Blk W w.heap.size 79 (cellsW s) ∧ Blk W (w.heap.size + 1) 79 (cellsW (List.replicate 8 0)) ∧ Below w.heap.size w W
section
variable {s : List UInt32} {w W W' : World}
theorem AddS.below (h : AddS s w W) (hb : Below W.heap.size W W') : AddS s w W' :=
  ⟨h.1.below hb h.1.lt, h.2.1.below hb h.2.1.lt, below_step' h.2.2 hb⟩
theorem AddS.alloc (h : AddS s w W) (o : Obj) : AddS s w (W.alloc o) :=
  h.below ((Below.refl _ W).alloc (Nat.le_refl _) o)
theorem AddS.drew (h : AddS s w W) : AddS s w W.drew := ⟨h.1, h.2.1, below_drewN' h.2.2 1⟩
theorem AddS.row (h : AddS s w W) {g : Nat} (hg : w.heap.size + 1 < g) (cs : Array Value) : AddS s w (W.setRow g cs) :=
  ⟨h.1.rowFar (by omega) cs, h.2.1.rowFar (by omega) cs, below_setRow h.2.2 (by omega) cs⟩
theorem AddS.set (h : AddS s w W) {p : Addr} (hp : w.heap.size + 1 < p.block) (v : Value) : AddS s w (W.setCell p v) :=
  ⟨h.1.far (by omega) v, h.2.1.far (by omega) v, h.2.2.setCell (by omega) v⟩
theorem AddS.size (h : AddS s w W) : w.heap.size + 1 < W.heap.size := h.2.1.lt
end
set_option maxHeartbeats 1000000 in
set_option maxRecDepth 100000 in
theorem add_any (p : Addr) (l : List UInt8) (c : Nat) (s : List UInt32) (hl : l.length = 64) (hc : 64 ≤ c) (hs : s.length = 8) (w : World) (hr : ReadsB w (some p) l) (hC : Cubes w) :
    Calls Tryd.prog 40 #[.agg (cellsW s), .slice (some p) 64 c] w fun e w' => e = .returned (.agg (cellsW (addB s l))) ∧ Below w.heap.size w w' := by
  have HS0 : Hid (AddS s w ((w.alloc (.cells (cellsW s) 79)).alloc (.cells (cellsW (List.replicate 8 0)) 79))) :=
    ⟨(Blk.new w 79 (cellsW s)).alloc _, blk_alloc2 w _ 79 _, ((Below.refl _ w).alloc (Nat.le_refl _) _).alloc (by simp) _⟩
  have HL := Lib.hid hl
  have HSL := Lib.hid hs
  have HR := Lib.hid hr
  have HC := Lib.hid hC
  clear hr hl hs hC
  have hi1 : (Tryd.prog.info? 79).map (·.size) = some (s.map fun b => Value.int .u32 (b.toNat : Int)).length := by rw [List.length_map, HSL.out]; kernel_rfl
  go_enter Tryd.func40, Tryd.ntmps40
  go_upto_region 1 with (fail)
  go_cut [5, 6] (fun t5 t6 wr => ∃ g5 g6 : Nat, t5 = .pointer (some ⟨g5, 0, none⟩) ∧ t6 = .pointer (some ⟨g6, 0, none⟩) ∧ g5 ≠ g6 ∧ w.heap.size + 1 < g5 ∧ w.heap.size + 1 < g6 ∧ Hid (Blk wr g5 99 (cellsW (wds l 64))) ∧ Hid (Blk wr g6 79 (cellsW s)) ∧ Hid (AddS s w wr))
  case first =>
    have hc0 : Hid (∀ W, AddS s w W → Calls Tryd.prog 53 #[.slice (some p) 64 c] W fun r W' => r = .returned (.agg (cellsW (wds l 64))) ∧ Below W.heap.size W W' ∧ AddS s w W') :=
      fun W h => (words_any p l c HL.out hc W (HR.out.below h.2.2)).mono fun r W' ⟨h1, h2⟩ => ⟨h1, h2, h.below h2⟩
    have hCall := hc0
    clear hc0
    have HW64 : Hid ((cellsW (wds l 64)).size = 64) := by rw [Hid, cellsW_size, wds_length]
    have HS8 : Hid ((cellsW s).size = 8) := by rw [Hid, cellsW_size]; exact HSL.out
    refine wp_region_held_drew (S := fun W => Hid (AddS s w W)) (by kernel_rfl) HS0.out.drew (fun hHeld => ?_)
    change wpAnyH _ _ _ _ _ _ _ _ (World.drew ((w.alloc (.cells (cellsW s) 79)).alloc (.cells (cellsW (List.replicate 8 0)) 79)))
    have HS0 := Lib.hid HS0.out.drew
    generalize World.drew ((w.alloc (.cells (cellsW s) 79)).alloc (.cells (cellsW (List.replicate 8 0)) 79)) = W0 at *
    refine takeO (i := 0) (v := .slice (some p) 64 c) rfl (by kernel_rfl) (by kernel_rfl) (by kernel_rfl) (fun _ _ _ h => h) (by assumption) (Or.inl ⟨by rfl, fun W hSW => by go_simp⟩) ?_
    simp only [Act.put, List.setIfInBounds_toArray, List.set_cons_zero, List.set_cons_succ]
    refine takeO (i := 2) (v := .agg (cellsW s)) rfl (by kernel_rfl) (by kernel_rfl) (by kernel_rfl) (fun _ _ _ h => h) (by assumption) (yieldsIf_load_mid (by rfl) 79 (.tmp 2) rfl w.heap.size 0 rfl (s.map fun b => Value.int .u32 (b.toNat : Int)) _ (fun W h => blk_rangeW h.1) Tryd.underlying79 rfl hi1) ?_
    simp only [Act.put, List.setIfInBounds_toArray, List.set_cons_zero, List.set_cons_succ]
    refine wpAnyH_ready (rs := [1, 3, 4]) (by kernel_rfl) (by simp) ?_
    refine (AllReadyH.cons rfl (fun K hK => ?_) (AllReadyH.cons rfl (fun K hK => ?_) (AllReadyH.cons rfl (fun K hK => ?_) AllReadyH.nil)))
    · skip
      go_simp
      refine (hCall.out _ HS0.out).mono ?_
      rintro r W1 ⟨rfl, hb, hs'⟩
      have HS1 := Lib.hid hs'
      clear hb hs'
      refine hK.out _ _ HS1.out (fun _ => ?_)
      clear hK K
      try simp only [Act.put, List.setIfInBounds_toArray, List.set_cons_zero, List.set_cons_succ]
      refine wpAnyH_ready (rs := [3, 4]) (by kernel_rfl) (by simp) ?_
      refine (AllReadyH.cons rfl (fun K hK => ?_) (AllReadyH.cons rfl (fun K hK => ?_) AllReadyH.nil))
      · skip
        go_simp
        change K _ (World.alloc W1 (.cells (cellsW (List.replicate 64 0)) 99))
        have HS2 := Lib.hid (HS1.out.alloc (.cells (cellsW (List.replicate 64 0)) 99))
        have H5_2 := Lib.hid (Blk.new W1 99 (cellsW (List.replicate 64 0)))
        have G5 := Lib.hid HS1.out.size
        generalize World.alloc W1 (.cells (cellsW (List.replicate 64 0)) 99) = W2 at *
        refine hK.out _ _ HS2.out (fun _ => ?_)
        clear hK K
        try simp only [Act.put, List.setIfInBounds_toArray, List.set_cons_zero, List.set_cons_succ]
        refine wpAnyH_ready (rs := [4]) (by kernel_rfl) (by simp) ?_
        refine (AllReadyH.cons rfl (fun K hK => ?_) AllReadyH.nil)
        · skip
          go_simp
          change K _ (World.alloc W2 (.cells (cellsW (List.replicate 8 0)) 79))
          have HS3 := Lib.hid (HS2.out.alloc (.cells (cellsW (List.replicate 8 0)) 79))
          have H6_3 := Lib.hid (Blk.new W2 79 (cellsW (List.replicate 8 0)))
          have H5_3 := Lib.hid (H5_2.out.alloc (.cells (cellsW (List.replicate 8 0)) 79))
          have LT := Lib.hid H5_2.out.lt
          have G6 := Lib.hid HS2.out.size
          generalize World.alloc W2 (.cells (cellsW (List.replicate 8 0)) 79) = W3 at *
          refine hK.out _ _ HS3.out (fun _ => ?_)
          clear hK K
          try simp only [Act.put, List.setIfInBounds_toArray, List.set_cons_zero, List.set_cons_succ]
          refine storeO (i := 5) (by kernel_rfl) rfl (W1.heap.size) (cellsW (wds l 64)) rfl rfl 99 _ H5_3.out (by rw [HW64.out]; kernel_rfl) (by rw [HW64.out, cellsW_size, List.length_replicate]) (cellsW_one _) (HS3.out.row G5.out _) (fun _ => ?_)
          try simp only [Act.put, List.setIfInBounds_toArray, List.set_cons_zero, List.set_cons_succ]
          have NE := Lib.hid (show W2.heap.size ≠ W1.heap.size by have := LT.out; omega)
          refine storeO (i := 6) (by kernel_rfl) rfl (W2.heap.size) (cellsW s) rfl rfl 79 _ (H6_3.out.rowFar NE.out _) (by rw [HS8.out]; kernel_rfl) (by rw [HS8.out, cellsW_size, List.length_replicate]) (cellsW_one _) ((HS3.out.row G5.out _).row G6.out _) (fun _ => ?_)
          try simp only [Act.put, List.setIfInBounds_toArray, List.set_cons_zero, List.set_cons_succ]
          refine wpAnyH_done (by kernel_rfl) ?_ _
          have R := Lib.hid (And.intro ((H5_3.out.row (cellsW (wds l 64))).rowFar NE.out.symm (cellsW s)) (And.intro ((H6_3.out.rowFar NE.out (cellsW (wds l 64))).row (cellsW s)) ((HS3.out.row G5.out (cellsW (wds l 64))).row G6.out (cellsW s))))
          go_wp2_with fail
          go_meet
          exact ⟨_, _, rfl, rfl, NE.out.symm, G5.out, G6.out, R.out.1, R.out.2.1, R.out.2.2⟩
      · skip
        go_simp
        change K _ (World.alloc W1 (.cells (cellsW (List.replicate 8 0)) 79))
        have HS2 := Lib.hid (HS1.out.alloc (.cells (cellsW (List.replicate 8 0)) 79))
        have H6_2 := Lib.hid (Blk.new W1 79 (cellsW (List.replicate 8 0)))
        have G6 := Lib.hid HS1.out.size
        generalize World.alloc W1 (.cells (cellsW (List.replicate 8 0)) 79) = W2 at *
        refine hK.out _ _ HS2.out (fun _ => ?_)
        clear hK K
        try simp only [Act.put, List.setIfInBounds_toArray, List.set_cons_zero, List.set_cons_succ]
        refine wpAnyH_ready (rs := [3]) (by kernel_rfl) (by simp) ?_
        refine (AllReadyH.cons rfl (fun K hK => ?_) AllReadyH.nil)
        · skip
          go_simp
          change K _ (World.alloc W2 (.cells (cellsW (List.replicate 64 0)) 99))
          have HS3 := Lib.hid (HS2.out.alloc (.cells (cellsW (List.replicate 64 0)) 99))
          have H5_3 := Lib.hid (Blk.new W2 99 (cellsW (List.replicate 64 0)))
          have H6_3 := Lib.hid (H6_2.out.alloc (.cells (cellsW (List.replicate 64 0)) 99))
          have LT := Lib.hid H6_2.out.lt
          have G5 := Lib.hid HS2.out.size
          generalize World.alloc W2 (.cells (cellsW (List.replicate 64 0)) 99) = W3 at *
          refine hK.out _ _ HS3.out (fun _ => ?_)
          clear hK K
          try simp only [Act.put, List.setIfInBounds_toArray, List.set_cons_zero, List.set_cons_succ]
          refine storeO (i := 5) (by kernel_rfl) rfl (W2.heap.size) (cellsW (wds l 64)) rfl rfl 99 _ H5_3.out (by rw [HW64.out]; kernel_rfl) (by rw [HW64.out, cellsW_size, List.length_replicate]) (cellsW_one _) (HS3.out.row G5.out _) (fun _ => ?_)
          try simp only [Act.put, List.setIfInBounds_toArray, List.set_cons_zero, List.set_cons_succ]
          have NE := Lib.hid (show W1.heap.size ≠ W2.heap.size by have := LT.out; omega)
          refine storeO (i := 6) (by kernel_rfl) rfl (W1.heap.size) (cellsW s) rfl rfl 79 _ (H6_3.out.rowFar NE.out _) (by rw [HS8.out]; kernel_rfl) (by rw [HS8.out, cellsW_size, List.length_replicate]) (cellsW_one _) ((HS3.out.row G5.out _).row G6.out _) (fun _ => ?_)
          try simp only [Act.put, List.setIfInBounds_toArray, List.set_cons_zero, List.set_cons_succ]
          refine wpAnyH_done (by kernel_rfl) ?_ _
          have R := Lib.hid (And.intro ((H5_3.out.row (cellsW (wds l 64))).rowFar NE.out.symm (cellsW s)) (And.intro ((H6_3.out.rowFar NE.out (cellsW (wds l 64))).row (cellsW s)) ((HS3.out.row G5.out (cellsW (wds l 64))).row G6.out (cellsW s))))
          go_wp2_with fail
          go_meet
          exact ⟨_, _, rfl, rfl, NE.out.symm, G5.out, G6.out, R.out.1, R.out.2.1, R.out.2.2⟩
    · skip
      go_simp
      change K _ (World.alloc W0 (.cells (cellsW (List.replicate 64 0)) 99))
      have HS1 := Lib.hid (HS0.out.alloc (.cells (cellsW (List.replicate 64 0)) 99))
      have H5_1 := Lib.hid (Blk.new W0 99 (cellsW (List.replicate 64 0)))
      have G5 := Lib.hid HS0.out.size
      generalize World.alloc W0 (.cells (cellsW (List.replicate 64 0)) 99) = W1 at *
      refine hK.out _ _ HS1.out (fun _ => ?_)
      clear hK K
      try simp only [Act.put, List.setIfInBounds_toArray, List.set_cons_zero, List.set_cons_succ]
      refine wpAnyH_ready (rs := [1, 4]) (by kernel_rfl) (by simp) ?_
      refine (AllReadyH.cons rfl (fun K hK => ?_) (AllReadyH.cons rfl (fun K hK => ?_) AllReadyH.nil))
      · skip
        go_simp
        refine (hCall.out _ HS1.out).mono ?_
        rintro r W2 ⟨rfl, hb, hs'⟩
        have HS2 := Lib.hid hs'
        have H5_2 := Lib.hid (H5_1.out.below hb H5_1.out.lt)
        clear hb hs'
        refine hK.out _ _ HS2.out (fun _ => ?_)
        clear hK K
        try simp only [Act.put, List.setIfInBounds_toArray, List.set_cons_zero, List.set_cons_succ]
        refine wpAnyH_ready (rs := [4]) (by kernel_rfl) (by simp) ?_
        refine (AllReadyH.cons rfl (fun K hK => ?_) AllReadyH.nil)
        · skip
          go_simp
          change K _ (World.alloc W2 (.cells (cellsW (List.replicate 8 0)) 79))
          have HS3 := Lib.hid (HS2.out.alloc (.cells (cellsW (List.replicate 8 0)) 79))
          have H6_3 := Lib.hid (Blk.new W2 79 (cellsW (List.replicate 8 0)))
          have H5_3 := Lib.hid (H5_2.out.alloc (.cells (cellsW (List.replicate 8 0)) 79))
          have LT := Lib.hid H5_2.out.lt
          have G6 := Lib.hid HS2.out.size
          generalize World.alloc W2 (.cells (cellsW (List.replicate 8 0)) 79) = W3 at *
          refine hK.out _ _ HS3.out (fun _ => ?_)
          clear hK K
          try simp only [Act.put, List.setIfInBounds_toArray, List.set_cons_zero, List.set_cons_succ]
          refine storeO (i := 5) (by kernel_rfl) rfl (W0.heap.size) (cellsW (wds l 64)) rfl rfl 99 _ H5_3.out (by rw [HW64.out]; kernel_rfl) (by rw [HW64.out, cellsW_size, List.length_replicate]) (cellsW_one _) (HS3.out.row G5.out _) (fun _ => ?_)
          try simp only [Act.put, List.setIfInBounds_toArray, List.set_cons_zero, List.set_cons_succ]
          have NE := Lib.hid (show W2.heap.size ≠ W0.heap.size by have := LT.out; omega)
          refine storeO (i := 6) (by kernel_rfl) rfl (W2.heap.size) (cellsW s) rfl rfl 79 _ (H6_3.out.rowFar NE.out _) (by rw [HS8.out]; kernel_rfl) (by rw [HS8.out, cellsW_size, List.length_replicate]) (cellsW_one _) ((HS3.out.row G5.out _).row G6.out _) (fun _ => ?_)
          try simp only [Act.put, List.setIfInBounds_toArray, List.set_cons_zero, List.set_cons_succ]
          refine wpAnyH_done (by kernel_rfl) ?_ _
          have R := Lib.hid (And.intro ((H5_3.out.row (cellsW (wds l 64))).rowFar NE.out.symm (cellsW s)) (And.intro ((H6_3.out.rowFar NE.out (cellsW (wds l 64))).row (cellsW s)) ((HS3.out.row G5.out (cellsW (wds l 64))).row G6.out (cellsW s))))
          go_wp2_with fail
          go_meet
          exact ⟨_, _, rfl, rfl, NE.out.symm, G5.out, G6.out, R.out.1, R.out.2.1, R.out.2.2⟩
      · skip
        go_simp
        change K _ (World.alloc W1 (.cells (cellsW (List.replicate 8 0)) 79))
        have HS2 := Lib.hid (HS1.out.alloc (.cells (cellsW (List.replicate 8 0)) 79))
        have H6_2 := Lib.hid (Blk.new W1 79 (cellsW (List.replicate 8 0)))
        have H5_2 := Lib.hid (H5_1.out.alloc (.cells (cellsW (List.replicate 8 0)) 79))
        have LT := Lib.hid H5_1.out.lt
        have G6 := Lib.hid HS1.out.size
        generalize World.alloc W1 (.cells (cellsW (List.replicate 8 0)) 79) = W2 at *
        refine hK.out _ _ HS2.out (fun _ => ?_)
        clear hK K
        try simp only [Act.put, List.setIfInBounds_toArray, List.set_cons_zero, List.set_cons_succ]
        refine wpAnyH_ready (rs := [1]) (by kernel_rfl) (by simp) ?_
        refine (AllReadyH.cons rfl (fun K hK => ?_) AllReadyH.nil)
        · skip
          go_simp
          refine (hCall.out _ HS2.out).mono ?_
          rintro r W3 ⟨rfl, hb, hs'⟩
          have HS3 := Lib.hid hs'
          have H5_3 := Lib.hid (H5_2.out.below hb H5_2.out.lt)
          have H6_3 := Lib.hid (H6_2.out.below hb H6_2.out.lt)
          clear hb hs'
          refine hK.out _ _ HS3.out (fun _ => ?_)
          clear hK K
          try simp only [Act.put, List.setIfInBounds_toArray, List.set_cons_zero, List.set_cons_succ]
          refine storeO (i := 5) (by kernel_rfl) rfl (W0.heap.size) (cellsW (wds l 64)) rfl rfl 99 _ H5_3.out (by rw [HW64.out]; kernel_rfl) (by rw [HW64.out, cellsW_size, List.length_replicate]) (cellsW_one _) (HS3.out.row G5.out _) (fun _ => ?_)
          try simp only [Act.put, List.setIfInBounds_toArray, List.set_cons_zero, List.set_cons_succ]
          have NE := Lib.hid (show W1.heap.size ≠ W0.heap.size by have := LT.out; omega)
          refine storeO (i := 6) (by kernel_rfl) rfl (W1.heap.size) (cellsW s) rfl rfl 79 _ (H6_3.out.rowFar NE.out _) (by rw [HS8.out]; kernel_rfl) (by rw [HS8.out, cellsW_size, List.length_replicate]) (cellsW_one _) ((HS3.out.row G5.out _).row G6.out _) (fun _ => ?_)
          try simp only [Act.put, List.setIfInBounds_toArray, List.set_cons_zero, List.set_cons_succ]
          refine wpAnyH_done (by kernel_rfl) ?_ _
          have R := Lib.hid (And.intro ((H5_3.out.row (cellsW (wds l 64))).rowFar NE.out.symm (cellsW s)) (And.intro ((H6_3.out.rowFar NE.out (cellsW (wds l 64))).row (cellsW s)) ((HS3.out.row G5.out (cellsW (wds l 64))).row G6.out (cellsW s))))
          go_wp2_with fail
          go_meet
          exact ⟨_, _, rfl, rfl, NE.out.symm, G5.out, G6.out, R.out.1, R.out.2.1, R.out.2.2⟩
    · skip
      go_simp
      change K _ (World.alloc W0 (.cells (cellsW (List.replicate 8 0)) 79))
      have HS1 := Lib.hid (HS0.out.alloc (.cells (cellsW (List.replicate 8 0)) 79))
      have H6_1 := Lib.hid (Blk.new W0 79 (cellsW (List.replicate 8 0)))
      have G6 := Lib.hid HS0.out.size
      generalize World.alloc W0 (.cells (cellsW (List.replicate 8 0)) 79) = W1 at *
      refine hK.out _ _ HS1.out (fun _ => ?_)
      clear hK K
      try simp only [Act.put, List.setIfInBounds_toArray, List.set_cons_zero, List.set_cons_succ]
      refine wpAnyH_ready (rs := [1, 3]) (by kernel_rfl) (by simp) ?_
      refine (AllReadyH.cons rfl (fun K hK => ?_) (AllReadyH.cons rfl (fun K hK => ?_) AllReadyH.nil))
      · skip
        go_simp
        refine (hCall.out _ HS1.out).mono ?_
        rintro r W2 ⟨rfl, hb, hs'⟩
        have HS2 := Lib.hid hs'
        have H6_2 := Lib.hid (H6_1.out.below hb H6_1.out.lt)
        clear hb hs'
        refine hK.out _ _ HS2.out (fun _ => ?_)
        clear hK K
        try simp only [Act.put, List.setIfInBounds_toArray, List.set_cons_zero, List.set_cons_succ]
        refine wpAnyH_ready (rs := [3]) (by kernel_rfl) (by simp) ?_
        refine (AllReadyH.cons rfl (fun K hK => ?_) AllReadyH.nil)
        · skip
          go_simp
          change K _ (World.alloc W2 (.cells (cellsW (List.replicate 64 0)) 99))
          have HS3 := Lib.hid (HS2.out.alloc (.cells (cellsW (List.replicate 64 0)) 99))
          have H5_3 := Lib.hid (Blk.new W2 99 (cellsW (List.replicate 64 0)))
          have H6_3 := Lib.hid (H6_2.out.alloc (.cells (cellsW (List.replicate 64 0)) 99))
          have LT := Lib.hid H6_2.out.lt
          have G5 := Lib.hid HS2.out.size
          generalize World.alloc W2 (.cells (cellsW (List.replicate 64 0)) 99) = W3 at *
          refine hK.out _ _ HS3.out (fun _ => ?_)
          clear hK K
          try simp only [Act.put, List.setIfInBounds_toArray, List.set_cons_zero, List.set_cons_succ]
          refine storeO (i := 5) (by kernel_rfl) rfl (W2.heap.size) (cellsW (wds l 64)) rfl rfl 99 _ H5_3.out (by rw [HW64.out]; kernel_rfl) (by rw [HW64.out, cellsW_size, List.length_replicate]) (cellsW_one _) (HS3.out.row G5.out _) (fun _ => ?_)
          try simp only [Act.put, List.setIfInBounds_toArray, List.set_cons_zero, List.set_cons_succ]
          have NE := Lib.hid (show W0.heap.size ≠ W2.heap.size by have := LT.out; omega)
          refine storeO (i := 6) (by kernel_rfl) rfl (W0.heap.size) (cellsW s) rfl rfl 79 _ (H6_3.out.rowFar NE.out _) (by rw [HS8.out]; kernel_rfl) (by rw [HS8.out, cellsW_size, List.length_replicate]) (cellsW_one _) ((HS3.out.row G5.out _).row G6.out _) (fun _ => ?_)
          try simp only [Act.put, List.setIfInBounds_toArray, List.set_cons_zero, List.set_cons_succ]
          refine wpAnyH_done (by kernel_rfl) ?_ _
          have R := Lib.hid (And.intro ((H5_3.out.row (cellsW (wds l 64))).rowFar NE.out.symm (cellsW s)) (And.intro ((H6_3.out.rowFar NE.out (cellsW (wds l 64))).row (cellsW s)) ((HS3.out.row G5.out (cellsW (wds l 64))).row G6.out (cellsW s))))
          go_wp2_with fail
          go_meet
          exact ⟨_, _, rfl, rfl, NE.out.symm, G5.out, G6.out, R.out.1, R.out.2.1, R.out.2.2⟩
      · skip
        go_simp
        change K _ (World.alloc W1 (.cells (cellsW (List.replicate 64 0)) 99))
        have HS2 := Lib.hid (HS1.out.alloc (.cells (cellsW (List.replicate 64 0)) 99))
        have H5_2 := Lib.hid (Blk.new W1 99 (cellsW (List.replicate 64 0)))
        have H6_2 := Lib.hid (H6_1.out.alloc (.cells (cellsW (List.replicate 64 0)) 99))
        have LT := Lib.hid H6_1.out.lt
        have G5 := Lib.hid HS1.out.size
        generalize World.alloc W1 (.cells (cellsW (List.replicate 64 0)) 99) = W2 at *
        refine hK.out _ _ HS2.out (fun _ => ?_)
        clear hK K
        try simp only [Act.put, List.setIfInBounds_toArray, List.set_cons_zero, List.set_cons_succ]
        refine wpAnyH_ready (rs := [1]) (by kernel_rfl) (by simp) ?_
        refine (AllReadyH.cons rfl (fun K hK => ?_) AllReadyH.nil)
        · skip
          go_simp
          refine (hCall.out _ HS2.out).mono ?_
          rintro r W3 ⟨rfl, hb, hs'⟩
          have HS3 := Lib.hid hs'
          have H5_3 := Lib.hid (H5_2.out.below hb H5_2.out.lt)
          have H6_3 := Lib.hid (H6_2.out.below hb H6_2.out.lt)
          clear hb hs'
          refine hK.out _ _ HS3.out (fun _ => ?_)
          clear hK K
          try simp only [Act.put, List.setIfInBounds_toArray, List.set_cons_zero, List.set_cons_succ]
          refine storeO (i := 5) (by kernel_rfl) rfl (W1.heap.size) (cellsW (wds l 64)) rfl rfl 99 _ H5_3.out (by rw [HW64.out]; kernel_rfl) (by rw [HW64.out, cellsW_size, List.length_replicate]) (cellsW_one _) (HS3.out.row G5.out _) (fun _ => ?_)
          try simp only [Act.put, List.setIfInBounds_toArray, List.set_cons_zero, List.set_cons_succ]
          have NE := Lib.hid (show W0.heap.size ≠ W1.heap.size by have := LT.out; omega)
          refine storeO (i := 6) (by kernel_rfl) rfl (W0.heap.size) (cellsW s) rfl rfl 79 _ (H6_3.out.rowFar NE.out _) (by rw [HS8.out]; kernel_rfl) (by rw [HS8.out, cellsW_size, List.length_replicate]) (cellsW_one _) ((HS3.out.row G5.out _).row G6.out _) (fun _ => ?_)
          try simp only [Act.put, List.setIfInBounds_toArray, List.set_cons_zero, List.set_cons_succ]
          refine wpAnyH_done (by kernel_rfl) ?_ _
          have R := Lib.hid (And.intro ((H5_3.out.row (cellsW (wds l 64))).rowFar NE.out.symm (cellsW s)) (And.intro ((H6_3.out.rowFar NE.out (cellsW (wds l 64))).row (cellsW s)) ((HS3.out.row G5.out (cellsW (wds l 64))).row G6.out (cellsW s))))
          go_wp2_with fail
          go_meet
          exact ⟨_, _, rfl, rfl, NE.out.symm, G5.out, G6.out, R.out.1, R.out.2.1, R.out.2.2⟩
  case rest =>
    obtain ⟨g5, g6, rfl, rfl, hne, h5, h6, HB5, HB6, HS⟩ := hcut
    have HNE := Lib.hid hne
    clear hne HS0
    go_wp2_with fail
    go_loopw [14] (fun t14 wr => ∃ k : Nat, t14 = .int .i64 k ∧ k ≤ 64 ∧ Hid (Blk wr g5 99 (cellsW (wds l 64))) ∧ Hid (Blk wr g6 79 (cellsW (rnds (wds l 64) s k))) ∧ Hid (AddS s w wr)) (fun t14 _ => 64 - (intOf t14).toNat)
    case atStart => exact ⟨0, rfl, by omega, HB5, HB6, HS⟩
    case round =>
      clear HB5 HB6 HS
      obtain ⟨k, rfl, hk, HB5, HB6, HS⟩ := hrel
      by_cases hlt : k < 64
      · obtain ⟨a, b, c', d, e, f, g, h, hx⟩ := eight_of (rnds (wds l 64) s k) ((rnds_length _ _ _).trans HSL.out)
        have HST : Hid (rnds (wds l 64) s (k + 1) = [ad (tOf (cubes.getD k 0) ((wds l 64).getD k 0) e f g h) (uOf a b c'), a, b, c', ad d (tOf (cubes.getD k 0) ((wds l 64).getD k 0) e f g h), e, f, g]) := by rw [Hid, rnds, hx]; rfl
        have HX : Hid (Blk wr g6 79 (cellsW [a, b, c', d, e, f, g, h])) := by have h := HB6.out; rw [hx] at h; exact h
        clear HB6 hx
        have x0 : wr.cell? ⟨g6, 0, none⟩ = some (.int .u32 (a.toNat : Int)) := Blk.cell HX.out 0
        have x1 : wr.cell? ⟨g6, 1, none⟩ = some (.int .u32 (b.toNat : Int)) := Blk.cell HX.out 1
        have x2 : wr.cell? ⟨g6, 2, none⟩ = some (.int .u32 (c'.toNat : Int)) := Blk.cell HX.out 2
        have x4 : wr.cell? ⟨g6, 4, none⟩ = some (.int .u32 (e.toNat : Int)) := Blk.cell HX.out 4
        have x5 : wr.cell? ⟨g6, 5, none⟩ = some (.int .u32 (f.toNat : Int)) := Blk.cell HX.out 5
        have x6 : wr.cell? ⟨g6, 6, none⟩ = some (.int .u32 (g.toNat : Int)) := Blk.cell HX.out 6
        have x7 : wr.cell? ⟨g6, 7, none⟩ = some (.int .u32 (h.toNat : Int)) := Blk.cell HX.out 7
        have xw := (Blk.cell HB5.out k).trans (cellsW_getD _ k (by rw [wds_length]; exact hlt))
        have xc := HC.out.below HS.out.2.2 k hlt
        have hT1 : Hid (∀ W, Calls Tryd.prog 54 #[.int .u32 (e.toNat : Int), .int .i64 6, .int .i64 11, .int .i64 25] W fun r w' => r = .returned (.int .u32 ((xo (xo (rr 6 e) (rr 11 e)) (rr 25 e)).toNat : Int)) ∧ w' = W) := fun W => (three_any e 6 11 25 (by decide) (by decide) (by decide) W).mono fun _ _ ⟨a, b⟩ => ⟨a, b.symm⟩
        have hT2 : Hid (∀ W, Calls Tryd.prog 54 #[.int .u32 (a.toNat : Int), .int .i64 2, .int .i64 13, .int .i64 22] W fun r w' => r = .returned (.int .u32 ((xo (xo (rr 2 a) (rr 13 a)) (rr 22 a)).toNat : Int)) ∧ w' = W) := fun W => (three_any a 2 13 22 (by decide) (by decide) (by decide) W).mono fun _ _ ⟨a, b⟩ => ⟨a, b.symm⟩
        generalize (wds l 64).getD k 0 = ww at *
        generalize cubes.getD k 0 = kk at *
        have hk0 : (0 : Int) ≤ (k : Int) := by omega
        have hk64 : (k : Int) < 64 := by omega
        go_wp2_with fail
        go_quiet ((go_at_call 54; exact Calls.quiet_of_same (hT1.out _)))
        revert nq
        intro n1
        go_wp2_with fail
        go_quiet ((go_at_call 54; exact quiet_more hT2.out))
        go_wp2_with fail
        rw [t_int, u_int]
        generalize tOf kk ww e f g h = tt at *
        generalize uOf a b c' = uu at *
        refine wp_region_still_tail 2 (by kernel_rfl) (by kernel_rfl) ?_
        simp only [List.take_succ_cons, List.take_zero, List.drop_succ_cons, List.drop_zero]
        repeat still_step
        refine wpStill_nil ?_
        change wpList _ _ _ _ _ (((wr.drewN n1).drewN nq).drewN 1)
        have HX7 : Hid (Blk (((wr.drewN n1).drewN nq).drewN 1) g6 79 (cellsW [a, b, c', d, e, f, g, h])) := HX.out
        have HB7 : Hid (Blk (((wr.drewN n1).drewN nq).drewN 1) g5 99 (cellsW (wds l 64))) := HB5.out
        have HS7 : Hid (AddS s w (((wr.drewN n1).drewN nq).drewN 1)) := ⟨HS.out.1, HS.out.2.1, below_drewN' (below_drewN' (below_drewN' HS.out.2.2 n1) nq) 1⟩
        clear x0 x1 x2 x4 x5 x6 x7 xw xc HX HB5 HS
        generalize ((wr.drewN n1).drewN nq).drewN 1 = W7 at *
        refine wpList_copy_own rfl (.tmp 61) (.tmp 62) 86 86 rfl 67 Tryd.underlying86 (by kernel_rfl) g6 1 7 7 ⟨g6, 0, none⟩ 7 8 rfl rfl (cellsW [a, b, c', d, e, f, g, h]) 79 HX7.out (cellsW [a, b, c', d, e, f, g]).toList (by rfl) (copy_src HX7.out) (by simp [cellsW]) (copy_one a b c' d e f g) ?_
        rw [copy_row]
        have K5 := Lib.hid (HB7.out.rowFar HNE.out (cellsW [a, a, b, c', d, e, f, g]))
        have K6 := Lib.hid (HX7.out.row (cellsW [a, a, b, c', d, e, f, g]))
        have KS := Lib.hid (HS7.out.row h6 (cellsW [a, a, b, c', d, e, f, g]))
        generalize W7.setRow g6 (cellsW [a, a, b, c', d, e, f, g]) = W2 at *
        have y0 : W2.cell? ⟨g6, 0, none⟩ = some (.int .u32 (a.toNat : Int)) := Blk.cell K6.out 0
        have y4 : W2.cell? ⟨g6, 4, none⟩ = some (.int .u32 (d.toNat : Int)) := Blk.cell K6.out 4
        have f0 := Blk.frozen K6.out 0
        have f4 := Blk.frozen K6.out 4
        go_wp2_with fail
        go_roundw
        case rel =>
          refine ⟨k + 1, by go_num, by omega, (K5.out.far (p := ⟨g6, 0, none⟩) HNE.out _).far (p := ⟨g6, 4, none⟩) HNE.out _, ?_, (KS.out.set (p := ⟨g6, 0, none⟩) h6 _).set (p := ⟨g6, 4, none⟩) h6 _⟩
          rw [HST.out, ad_int, ad_int]
          have h := (K6.out.set_ 0 (.int .u32 ((ad tt uu).toNat : Int))).set_ 4 (.int .u32 ((ad d tt).toNat : Int))
          rw [cellsW_set, cellsW_set] at h
          exact h
        case measure => simp [intOf]; omega
      · obtain rfl : k = 64 := by omega
        clear hk hlt
        obtain ⟨x, hx⟩ : ∃ x, x = rnds (wds l 64) s 64 := ⟨_, rfl⟩
        have HX8 : Hid (x.length = 8) := by rw [Hid, hx, rnds_length]; exact HSL.out
        have HZ : Hid (List.zipWith ad s x = addB s l) := by rw [Hid, hx]; rfl
        rw [← hx] at HB6
        clear hx
        go_wp2_with fail
        rw [show ((64 : Nat) : Int) = 64 from rfl]
        obtain ⟨wo, rfl⟩ : ∃ wo : World, wo = wr := ⟨_, rfl⟩
        go_loopw [74] (fun t74 wr => ∃ k : Nat, t74 = .int .i64 k ∧ k ≤ 8 ∧ Hid (Blk wr g6 79 (cellsW x)) ∧ Hid (Blk wr w.heap.size 79 (cellsW (laidA s x k))) ∧ Hid (Blk wr (w.heap.size + 1) 79 (cellsW (List.replicate 8 0))) ∧ Hid (Below w.heap.size w wr)) (fun t74 _ => 8 - (intOf t74).toNat)
        case atStart => exact ⟨0, rfl, by omega, HB6, by have h := HS.out.1; simpa [Hid, laidA] using h, HS.out.2.1, HS.out.2.2⟩
        case round =>
          clear HB5 HB6 HS
          obtain ⟨k, rfl, hk, HB6, HBs, HBr, HW⟩ := hrel
          by_cases hlt : k < 8
          · have hk0 : (0 : Int) ≤ (k : Int) := by omega
            have hk8 : (k : Int) < 8 := by omega
            have y1 := (Blk.cell HB6.out k).trans (cellsW_getD _ k (by rw [HX8.out]; exact hlt))
            have y2 := (Blk.cell HBs.out k).trans (cellsW_getD _ k (by rw [laidA_length s x k HSL.out HX8.out hk]; exact hlt))
            rw [laidA_at s x k HSL.out HX8.out hlt] at y2
            have yf := Blk.frozen HBs.out k
            have HST := Lib.hid (laidA_step s x k HSL.out HX8.out hlt)
            generalize x.getD k 0 = xk at *
            generalize s.getD k 0 = sk at *
            go_wp2_with fail
            refine wp_region_still_tail 8 (by kernel_rfl) (by kernel_rfl) ?_
            simp only [List.take_succ_cons, List.take_zero, List.drop_succ_cons, List.drop_zero]
            change wpStill _ _ (wr.drewN 1) _ _ _
            repeat still_step
            refine wpStill_nil ?_
            go_wp2_with fail
            go_roundw
            case rel =>
              refine ⟨k + 1, by go_num, by omega, (HB6.out.far (p := ⟨w.heap.size, k, none⟩) (fun e => by have h0 : g6 = w.heap.size := e; omega) _).drewN 1, ?_, (HBr.out.far (p := ⟨w.heap.size, k, none⟩) (by simp) _).drewN 1, below_drewN' (n := 1) (HW.out.setCell (p := ⟨w.heap.size, k, none⟩) (Nat.le_refl _) _)⟩
              rw [ad_int, ← HST.out, ← cellsW_set]
              exact (HBs.out.set_ k _).drewN 1
            case measure => simp [intOf]; omega
          · obtain rfl : k = 8 := by omega
            have HF : Hid (Blk wr w.heap.size 79 (cellsW (addB s l))) := by have h := HBs.out; rw [laidA_full s x HSL.out HX8.out, HZ.out] at h; exact h
            have HSZ : Hid ((cellsW (addB s l)).size = 8) := by rw [Hid, cellsW_size, addB_length]; exact HSL.out
            clear HBs
            go_wp2_with (first
              | (refine wpList_load_row rfl 79 (.tmp 2) rfl w.heap.size rfl 79 (cellsW (addB s l)) (0, 0) _ HF.out Tryd.underlying79 rfl (by rw [HSZ.out]; kernel_rfl) ?_)
              | (refine wpList_store_row rfl 79 (.tmp 4) (.tmp 86) rfl (w.heap.size + 1) (cellsW (addB s l)) rfl rfl 79 _ HBr.out (by rw [HSZ.out]; kernel_rfl) (by rw [HSZ.out, cellsW_size, List.length_replicate]) (cellsW_one _) ?_))
            refine bodyPost_ret (results_cell_row rfl _ _ (w.heap.size + 1) 79 (cellsW (addB s l)) _ _ rfl (Blk.row HBr.out _) Tryd.underlying79 rfl (by rw [HSZ.out]; kernel_rfl)) rfl ?_
            exact ⟨rfl, below_setRow HW.out (by omega) _⟩
end Go.Proofs.YtmaknbcfnigbmaaDoor
