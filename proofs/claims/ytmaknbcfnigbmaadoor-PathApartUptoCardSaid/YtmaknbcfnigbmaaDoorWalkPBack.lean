/- PathBack, walked. -/
import Derived.Test.YtmaknbcfnigbmaaDoorWalkMake
import Derived.Test.YtmaknbcfnigbmaaDoorWalkSplits
namespace Go.Proofs.YtmaknbcfnigbmaaDoor
open Go.RowKit Sig Names Go.Proofs.YtmaknbcfnigbmaaDoorW.PrintWords
set_option linter.unusedSimpArgs false
theorem rangeOfB {w : World} {g : Nat} {t : TypeId} {l : List UInt8} (h : Blk w g t (cellsB l)) : w.rangeAt g 0 (Lib.byteCells l) := by
  intro j v hj
  rw [Nat.zero_add, h.cell]
  simpa [cellsB, Lib.byteCells] using hj
/-- The path as a text. -/
def pathB (k d n : List UInt8) : ByteArray := ⟨(mkPath k d n).toArray⟩
theorem pathB_list (k d n : List UInt8) : (pathB k d n).data.toList = mkPath k d n := by unfold pathB; simp
theorem mkPath_length (k d n : List UInt8) : (mkPath k d n).length = 40 + n.length := by
  unfold mkPath storeL
  simp only [List.length_append, List.length_cons, List.length_nil, short_len]
  omega
theorem pathB_size (k d n : List UInt8) : (pathB k d n).size = 40 + n.length := by
  have h := congrArg List.length (pathB_list k d n)
  rw [mkPath_length] at h
  simpa using h
theorem path_signs (k d n : List UInt8) : ((pathB k d n).extract 7 39).data.toList = enc (fold (Sha.sum (mkMsg k d n)) 32) := by
  rw [extract_list, pathB_list]
  unfold mkPath
  rw [List.drop_left' (by rfl), List.take_left' (by rw [short_len])]
theorem path_name (k d n : List UInt8) : ((pathB k d n).extract 40 (pathB k d n).size).data.toList = n := by
  rw [extract_rest, pathB_list]
  unfold mkPath
  have e : storeL ++ (enc (fold (Sha.sum (mkMsg k d n)) 32) ++ 45 :: n) = (storeL ++ (enc (fold (Sha.sum (mkMsg k d n)) 32) ++ [45])) ++ n := by simp
  rw [e, List.drop_left' (by simp only [List.length_append, short_len, storeL, List.length_cons, List.length_nil])]
theorem path_good (k d n : List UInt8) (hn : isName n = true) : Good (pathB k d n) := by
  refine ⟨?_, ?_, ?_, ?_, ?_⟩
  · rw [pathB_size]
    unfold isName at hn
    simp only [Bool.and_eq_true, decide_eq_true_eq] at hn
    omega
  · rw [toList_data, extract_list, pathB_list]
    rw [store_list]
    rfl
  · rw [pathB_list]
    unfold mkPath
    rw [List.getD_eq_getElem?_getD, List.getElem?_append_right (by decide), List.getElem?_append_right (by rw [short_len]; decide), short_len]
    rfl
  · rw [path_name]; exact hn
  · exact ⟨_, (path_signs k d n).symm⟩
theorem not_good_nil : ¬ Good ⟨#[]⟩ := fun h => absurd h.1 (by decide)
theorem make_yes (k n : ByteArray) (d : List UInt8) (hd : d.length = 32) (hk : k.size ≤ 1048576) (hn : n.size ≤ 1048576) (hok : okMake k.data.toList n.data.toList = true) (w : World) (hR : Ranges w) (hCu : Cubes w) (hSq : Squares w) :
    Calls Tryd.prog 30 #[.string k, .agg (Lib.byteCells d).toArray, .string n] w fun e w' => e = .returned (.tuple #[.string (pathB k.data.toList d n.data.toList), .int .i64 0]) ∧ Below w.heap.size w w' :=
  (make_any k n d hd hk hn w hR hCu hSq).mono fun e w' ⟨hb, s, c, he, h⟩ => by
    rcases h with ⟨_, h2, rfl⟩ | ⟨h1, _⟩
    · have e2 : s = pathB k.data.toList d n.data.toList := ext_list (h2.trans (pathB_list _ _ _).symm)
      rw [e2] at he
      exact ⟨he, hb⟩
    · rw [hok] at h1; cases h1
theorem make_no (k n : ByteArray) (d : List UInt8) (hd : d.length = 32) (hk : k.size ≤ 1048576) (hn : n.size ≤ 1048576) (hok : okMake k.data.toList n.data.toList = false) (w : World) (hR : Ranges w) (hCu : Cubes w) (hSq : Squares w) :
    Calls Tryd.prog 30 #[.string k, .agg (Lib.byteCells d).toArray, .string n] w fun e w' => e = .returned (.tuple #[.string ⟨#[]⟩, .int .i64 17]) ∧ Below w.heap.size w w' :=
  (make_any k n d hd hk hn w hR hCu hSq).mono fun e w' ⟨hb, s, c, he, h⟩ => by
    rcases h with ⟨h1, _⟩ | ⟨_, h2, rfl⟩
    · rw [hok] at h1; cases h1
    · rw [h2] at he; exact ⟨he, hb⟩
/-- What the tables are. -/
def Tabs (w : World) : Prop := Tails w ∧ Ranges w ∧ Cubes w ∧ Squares w
theorem Tabs.below {w w1 : World} (h : Tabs w) (hb : Below w.heap.size w w1) : Tabs w1 := ⟨h.1.below hb, h.2.1.below hb, h.2.2.1.below hb, h.2.2.2.below hb⟩
theorem list_beq (a b : List UInt8) (h : a = b) : (a == b) = true := by simp [h]
theorem list_bne (a b : List UInt8) (h : a ≠ b) : (a == b) = false := by simp [h]

set_option maxHeartbeats 4000000 in
set_option maxRecDepth 100000 in
theorem pback_no (k n : ByteArray) (d : List UInt8) (hd : d.length = 32) (hk : k.size ≤ 1048576) (hn : n.size ≤ 1048576) (hok : okMake k.data.toList n.data.toList = false) (w : World) (hT : Tabs w) :
    Calls Tryd.prog 12 #[.string k, .agg (cellsB d), .string n] w fun e w' => e = .returned (.bool true) ∧ Below w.heap.size w w' := by
  have HT := Lib.hid hT
  have HSD : Hid ((cellsB d).size = 32) := by rw [Hid, cellsB_size]; exact hd
  have HB := Lib.hid (Blk.new w 41 (cellsB d))
  have HW := Lib.hid ((Below.refl w.heap.size w).alloc (Nat.le_refl _) (.cells (cellsB d) 41))
  have M1 : Hid (∀ W, Tabs W → Calls Tryd.prog 30 #[.string k, .agg (cellsB d), .string n] W fun e w' => e = .returned (.tuple #[.string ⟨#[]⟩, .int .i64 17]) ∧ Below W.heap.size W w') := fun W h => make_no k n d hd hk hn hok W h.2.1 h.2.2.1 h.2.2.2
  clear hd hk hn hok hT
  go_enter Tryd.func12, Tryd.ntmps12
  go_wp2_with (refine wpList_load_row rfl 41 (.tmp 4) rfl w.heap.size rfl 41 (cellsB d) (0, 0) _ HB.out Tryd.underlying41 rfl (by rw [HSD.out]; kernel_rfl) ?_)
  refine (M1.out _ (HT.out.below HW.out)).mono ?_
  rintro e w2 ⟨rfl, hb2⟩
  have HW2 := Lib.hid (below_step' HW.out hb2)
  clear hb2
  go_wp2_with fail
  refine (base_bad ⟨#[]⟩ w2 (HT.out.below HW2.out).1 (HT.out.below HW2.out).2.1 (by decide) not_good_nil).mono ?_
  rintro e w3 ⟨rfl, hb3⟩
  have HW3 := Lib.hid (below_step' HW2.out hb3)
  clear hb3
  go_wp2_with fail
  go_ret
  exact ⟨rfl, HW3.out⟩

set_option maxHeartbeats 4000000 in
set_option maxRecDepth 100000 in
theorem pback_yes (k n : ByteArray) (d : List UInt8) (hd : d.length = 32) (hk : k.size ≤ 1048576) (hn : n.size ≤ 1048576) (hok : okMake k.data.toList n.data.toList = true) (w : World) (hT : Tabs w) :
    Calls Tryd.prog 12 #[.string k, .agg (cellsB d), .string n] w fun e w' => e = .returned (.bool true) ∧ Below w.heap.size w w' := by
  have HT := Lib.hid hT
  have HSD : Hid ((cellsB d).size = 32) := by rw [Hid, cellsB_size]; exact hd
  have HB := Lib.hid (Blk.new w 41 (cellsB d))
  have HW := Lib.hid ((Below.refl w.heap.size w).alloc (Nat.le_refl _) (.cells (cellsB d) 41))
  have hname : isName n.data.toList = true := by
    unfold okMake at hok
    simp only [Bool.and_eq_true] at hok
    exact hok.1.1
  have hnl : n.data.toList.length = n.size := by simp
  have hn27 : 1 ≤ n.size ∧ n.size ≤ 27 := by
    have h := hname
    unfold isName at h
    simp only [Bool.and_eq_true, decide_eq_true_eq] at h
    rw [hnl] at h
    exact ⟨h.1, h.2.1⟩
  have hgood := path_good k.data.toList d n.data.toList hname
  have hpsz := pathB_size k.data.toList d n.data.toList
  have hsg := path_signs k.data.toList d n.data.toList
  have hnm := ext_list (path_name k.data.toList d n.data.toList)
  have M1 : Hid (∀ W, Tabs W → Calls Tryd.prog 30 #[.string k, .agg (cellsB d), .string n] W fun e w' => e = .returned (.tuple #[.string (pathB k.data.toList d n.data.toList), .int .i64 0]) ∧ Below W.heap.size W w') := fun W h => make_yes k n d hd hk hn hok W h.2.1 h.2.2.1 h.2.2.2
  have hM4 : Hid (∀ W, (Hid (Blk W w.heap.size 41 (cellsB d)) ∧ Hid (Below w.heap.size w W) ∧ Hid (Tabs W)) → Calls Tryd.prog 30 #[.string k, .agg (Lib.byteCells d).toArray, .string (n.extract 0 1)] W fun r W' => ∃ (o : ByteArray) (c : Int), r = .returned (.tuple #[.string o, .int .i64 c]) ∧ Hid (c = 17 ∨ (c = 0 ∧ ((n.size = 1 ∧ o = pathB k.data.toList d n.data.toList) ∨ (n.size ≠ 1 ∧ o.data.toList ≠ (pathB k.data.toList d n.data.toList).data.toList)))) ∧ (Hid (Blk W' w.heap.size 41 (cellsB d)) ∧ Hid (Below w.heap.size w W') ∧ Hid (Tabs W'))) :=
    fun W ⟨h1, h2, h3⟩ => by
      have hx : (n.extract 0 1).data.toList = n.data.toList.take 1 := by rw [extract_list]; rfl
      have hxl : (n.extract 0 1).data.toList.length = 1 := by rw [hx, List.length_take, hnl]; omega
      have hxs : (n.extract 0 1).size ≤ 1048576 := by
        have : (n.extract 0 1).data.toList.length = (n.extract 0 1).size := by simp
        omega
      by_cases hok2 : okMake k.data.toList (n.extract 0 1).data.toList = true
      · refine (make_yes k (n.extract 0 1) d hd hk hxs hok2 W h3.out.2.1 h3.out.2.2.1 h3.out.2.2.2).mono ?_
        rintro e W' ⟨he, hb⟩
        refine ⟨_, 0, he, Or.inr ⟨rfl, ?_⟩, Lib.hid (h1.out.below hb (Blk.lt h1.out)), Lib.hid (below_step' h2.out hb), Lib.hid (h3.out.below hb)⟩
        by_cases h1s : n.size = 1
        · refine Or.inl ⟨h1s, ?_⟩
          rw [hx, List.take_of_length_le (by rw [hnl]; omega)]
        · refine Or.inr ⟨h1s, fun e => ?_⟩
          have := congrArg List.length e
          rw [pathB_list, pathB_list, mkPath_length, mkPath_length, hxl, hnl] at this
          omega
      · have hok3 : okMake k.data.toList (n.extract 0 1).data.toList = false := by simpa using hok2
        refine (make_no k (n.extract 0 1) d hd hk hxs hok3 W h3.out.2.1 h3.out.2.2.1 h3.out.2.2.2).mono ?_
        rintro e W' ⟨he, hb⟩
        exact ⟨_, 17, he, Or.inl rfl, Lib.hid (h1.out.below hb (Blk.lt h1.out)), Lib.hid (below_step' h2.out hb), Lib.hid (h3.out.below hb)⟩
  have hi1 : (Tryd.prog.info? 41).map (·.size) = some (Lib.byteCells d).length := by rw [Lib.byteCells_length, hd]; kernel_rfl
  clear hd hk hn hok hT hname
  generalize pathB k.data.toList d n.data.toList = s at *
  have hs41 : s.size ≤ 1048576 := by rw [hpsz, hnl]; omega
  have hcat : s.extract 7 39 ++ ⟨#[45]⟩ ++ n = s.extract 7 s.size := by
    apply ext_list
    have e1 : (s.extract 7 s.size).data.toList = s.data.toList.drop 7 := extract_rest s 7
    have e2 : (s.extract 7 39).data.toList = (s.data.toList.drop 7).take 32 := extract_list s 7 39
    have e3 : n.data.toList = s.data.toList.drop 40 := by rw [← extract_rest s 40, hnm]
    have hsl : s.data.toList.length = 40 + n.size := by have : s.data.toList.length = s.size := by simp
                                                        rw [this, hpsz, hnl]
    have e4 : s.data.toList.getD 39 0 = 45 := hgood.2.2.1
    rw [e1]
    have h39 : 39 < s.data.toList.length := by omega
    have e5 : s.data.toList.drop 7 = (s.data.toList.drop 7).take 32 ++ (45 :: s.data.toList.drop 40) := by
      have h6 := (List.take_append_drop 32 (s.data.toList.drop 7)).symm
      rw [List.drop_drop] at h6
      have h7 : s.data.toList.drop (7 + 32) = 45 :: s.data.toList.drop 40 := by
        rw [List.drop_eq_getElem_cons h39]
        congr 1
        rw [← e4, List.getD_eq_getElem?_getD, List.getElem?_eq_getElem h39]
        rfl
      rw [h7] at h6
      exact h6
    rw [e5, ← e2, ← e3]
    simp only [toList_data, ByteArray.data_append, Array.toList_append, List.append_assoc]
    rfl
  have S2 : Hid (∀ W, Tabs W → Calls Tryd.prog 18 #[.string s] W fun e w' => e = .returned (.tuple #[.string (s.extract 7 39), .string n, .int .i64 0]) ∧ Below W.heap.size W w') := fun W h => by
    have h1 := split_any s W h.1 h.2.1 hs41
    rw [split_good hgood, hnm] at h1
    exact h1
  have S3 : Hid (∀ W, Tabs W → Calls Tryd.prog 20 #[.string s] W fun e w' => e = .returned (.string (s.extract 7 s.size)) ∧ Below W.heap.size W w') := fun W h => base_good s W h.1 h.2.1 hs41 hgood
  have hsgz : ((s.extract 7 39).size : Int) ≤ 32 := by
    have h1 := congrArg List.length hsg
    rw [short_len] at h1
    have h2 : (s.extract 7 39).data.toList.length = (s.extract 7 39).size := Array.length_toList
    omega
  have hsgb : (((s.extract 7 39).size : Int) == 32) = true := by
    have h1 := congrArg List.length hsg
    rw [short_len] at h1
    have h2 : (s.extract 7 39).data.toList.length = (s.extract 7 39).size := Array.length_toList
    rw [beq_iff_eq]; omega
  generalize s.extract 7 39 = sg at *
  generalize s.extract 7 s.size = bs at *
  have HCAT := Lib.hid hcat
  have HSGB := Lib.hid hsgb
  have h1n : (1 : Int) ≤ (n.size : Int) := by omega
  obtain ⟨hn1, hn2⟩ := hn27
  clear hgood hpsz hsg hnm hs41 hcat hsgb hnl
  have hu1 := Tryd.underlying41
  go_enter Tryd.func12, Tryd.ntmps12
  go_wp2_with (refine wpList_load_row rfl 41 (.tmp 4) rfl w.heap.size rfl 41 (cellsB d) (0, 0) _ HB.out Tryd.underlying41 rfl (by rw [HSD.out]; kernel_rfl) ?_)
  refine (M1.out _ (HT.out.below HW.out)).mono ?_
  rintro e w2 ⟨rfl, hb2⟩
  have HW2 := Lib.hid (below_step' HW.out hb2)
  have HB2 := Lib.hid (HB.out.below hb2 (Blk.lt HB.out))
  clear hb2 HW HB
  go_wp2_with fail
  refine (S2.out w2 (HT.out.below HW2.out)).mono ?_
  rintro e w3 ⟨rfl, hb3⟩
  have HW3 := Lib.hid (below_step' HW2.out hb3)
  have HB3 := Lib.hid (HB2.out.below hb3 (Blk.lt HB2.out))
  clear hb3 HW2 HB2
  go_wp2_with (refine wpList_load_row rfl 41 (.tmp 4) rfl w.heap.size rfl 41 (cellsB d) (0, 0) _ HB3.out Tryd.underlying41 rfl (by rw [HSD.out]; kernel_rfl) ?_)
  refine (M1.out _ (HT.out.below HW3.out)).mono ?_
  rintro e w4 ⟨rfl, hb4⟩
  have HW4 := Lib.hid (below_step' HW3.out hb4)
  have HB4 := Lib.hid (HB3.out.below hb4 (Blk.lt HB3.out))
  clear hb4 HW3 HB3
  go_upto_region 6 with (fail)
  refine wp_region_held_drew (S := fun W => (Hid (Blk W w.heap.size 41 (cellsB d)) ∧ Hid (Below w.heap.size w W) ∧ Hid (Tabs W))) (by kernel_rfl) ⟨HB4.out, Lib.hid (below_drewN' HW4.out 1), Lib.hid (HT.out.below (below_drewN' HW4.out 1))⟩ (fun hHeld => ?_)
  refine takeO (i := 0) (v := .string k) rfl (by kernel_rfl) (by kernel_rfl) (by kernel_rfl) (fun _ _ _ h => h) (by assumption) (Or.inl ⟨by rfl, fun W hSW => by go_simp⟩) ?_
  simp only [Act.put, List.setIfInBounds_toArray, List.set_cons_zero, List.set_cons_succ]
  refine takeO (i := 1) (v := .agg (Lib.byteCells d).toArray) rfl (by kernel_rfl) (by kernel_rfl) (by kernel_rfl) (fun _ _ _ h => h) (by assumption) (yieldsIf_load_mid (by rfl) 41 (.tmp 4) rfl w.heap.size 0 rfl (Lib.byteCells d) _ (fun W h => rangeOfB h.1.out) hu1 rfl hi1) ?_
  simp only [Act.put, List.setIfInBounds_toArray, List.set_cons_zero, List.set_cons_succ]
  refine takeO (i := 2) (v := .string n) rfl (by kernel_rfl) (by kernel_rfl) (by kernel_rfl) (fun _ _ _ h => h) (by assumption) (Or.inl ⟨by rfl, fun W hSW => by go_simp⟩) ?_
  simp only [Act.put, List.setIfInBounds_toArray, List.set_cons_zero, List.set_cons_succ]
  refine takeO (i := 3) (v := .string (n.extract 0 1)) rfl (by kernel_rfl) (by kernel_rfl) (by kernel_rfl) (fun _ _ _ h => h) (by assumption) (Or.inl ⟨by rfl, fun W hSW => by go_simp⟩) ?_
  simp only [Act.put, List.setIfInBounds_toArray, List.set_cons_zero, List.set_cons_succ]
  refine wpAnyH_ready (rs := [4]) (by kernel_rfl) (by simp) ?_
  refine AllReadyH.cons rfl (fun K hK => ?_) AllReadyH.nil
  go_simp
  go_at_call 30
  refine (hM4.out _ (by assumption)).mono ?_
  rintro r W' ⟨o, c, rfl, hoc, hS⟩
  refine hK.out _ _ hS (fun hHeld => ?_)
  clear hK K
  try simp only [Act.put, List.setIfInBounds_toArray, List.set_cons_zero, List.set_cons_succ]
  refine takeO (i := 5) (v := .tuple #[.string o, .int .i64 c]) rfl (by kernel_rfl) (by kernel_rfl) (by kernel_rfl) (fun _ _ _ h => h) (by assumption) (Or.inl ⟨by rfl, fun W hSW => by go_simp⟩) ?_
  simp only [Act.put, List.setIfInBounds_toArray, List.set_cons_zero, List.set_cons_succ]
  refine takeO (i := 6) (v := .string o) rfl (by kernel_rfl) (by kernel_rfl) (by kernel_rfl) (fun _ _ _ h => h) (by assumption) (Or.inl ⟨by rfl, fun W hSW => by go_simp⟩) ?_
  simp only [Act.put, List.setIfInBounds_toArray, List.set_cons_zero, List.set_cons_succ]
  refine takeO (i := 7) (v := .int .i64 c) rfl (by kernel_rfl) (by kernel_rfl) (by kernel_rfl) (fun _ _ _ h => h) (by assumption) (Or.inl ⟨by rfl, fun W hSW => by go_simp⟩) ?_
  simp only [Act.put, List.setIfInBounds_toArray, List.set_cons_zero, List.set_cons_succ]
  refine takeO (i := 8) (v := .string o) rfl (by kernel_rfl) (by kernel_rfl) (by kernel_rfl) (fun _ _ _ h => h) (by assumption) (Or.inl ⟨by rfl, fun W hSW => by go_simp⟩) ?_
  simp only [Act.put, List.setIfInBounds_toArray, List.set_cons_zero, List.set_cons_succ]
  refine takeO (i := 9) (v := .int .i64 c) rfl (by kernel_rfl) (by kernel_rfl) (by kernel_rfl) (fun _ _ _ h => h) (by assumption) (Or.inl ⟨by rfl, fun W hSW => by go_simp⟩) ?_
  simp only [Act.put, List.setIfInBounds_toArray, List.set_cons_zero, List.set_cons_succ]
  refine wpAnyH_done (by kernel_rfl) ?_ _
  have HF := Lib.hid hS
  clear hS hHeld hM4 hu1 hi1
  rcases hoc.out with rfl | ⟨rfl, ⟨h1, rfl⟩ | ⟨h1, h2⟩⟩
  · clear hoc
    have hcat := HCAT.out
    have hsgb := HSGB.out
    go_wp2_with fail
    refine (S3.out _ HF.out.2.2.out).mono ?_
    rintro e w6 ⟨rfl, hb6⟩
    have HW6 := Lib.hid (below_step' HF.out.2.1.out hb6)
    clear hb6
    go_wp2_with fail
    go_ret
    exact ⟨rfl, HW6.out⟩
  · clear hoc
    have hcat := HCAT.out
    have hsgb := HSGB.out
    have hone : ((n.size : Int) == 1) = true := by rw [beq_iff_eq]; omega
    clear h1
    go_wp2_with fail
    refine (S3.out _ HF.out.2.2.out).mono ?_
    rintro e w6 ⟨rfl, hb6⟩
    have HW6 := Lib.hid (below_step' HF.out.2.1.out hb6)
    clear hb6
    go_wp2_with fail
    go_ret
    exact ⟨rfl, HW6.out⟩
  · clear hoc
    have hcat := HCAT.out
    have hsgb := HSGB.out
    have hone : ((n.size : Int) == 1) = false := by rw [beq_eq_false_iff_ne]; omega
    have hos : (o.toList == s.toList) = false := list_bne _ _ (by rw [toList_data, toList_data]; exact h2)
    clear h1 h2
    go_wp2_with fail
    refine (S3.out _ HF.out.2.2.out).mono ?_
    rintro e w6 ⟨rfl, hb6⟩
    have HW6 := Lib.hid (below_step' HF.out.2.1.out hb6)
    clear hb6
    go_wp2_with fail
    go_ret
    exact ⟨rfl, HW6.out⟩
theorem pback_any (k n : ByteArray) (d : List UInt8) (hd : d.length = 32) (hk : k.size ≤ 1048576) (hn : n.size ≤ 1048576) (w : World) (hT : Tabs w) :
    Calls Tryd.prog 12 #[.string k, .agg (cellsB d), .string n] w fun e w' => e = .returned (.bool true) ∧ Below w.heap.size w w' := by
  by_cases hok : okMake k.data.toList n.data.toList = true
  · exact pback_yes k n d hd hk hn hok w hT
  · exact pback_no k n d hd hk hn (by simpa using hok) w hT
end Go.Proofs.YtmaknbcfnigbmaaDoor
