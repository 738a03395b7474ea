/- path.Make, walked: it tells the path of a kind, a digest and a name, or that there is none. -/
import Derived.Test.YtmaknbcfnigbmaaDoorWalkSum
import Derived.Test.YtmaknbcfnigbmaaDoorDig
import Derived.Test.YtmaknbcfnigbmaaDoorWalkName
import Derived.Lib.ConvBytes
import Derived.Lib.Join
namespace Go.Proofs.YtmaknbcfnigbmaaDoor
open Go.RowKit Sig Names Go.Proofs.YtmaknbcfnigbmaaDoorW.PrintWords
set_option linter.unusedSimpArgs false

/-- The message whose digest a path bears; the path. -/
def mkMsg (k d n : List UInt8) : List UInt8 := k ++ 58 :: (enc d ++ 58 :: n)
def storeL : List UInt8 := [47, 115, 116, 111, 114, 101, 47]
def mkPath (k d n : List UInt8) : List UInt8 := storeL ++ (enc (fold (Sha.sum (mkMsg k d n)) 32) ++ 45 :: n)
def okMake (k n : List UInt8) : Bool := isName n && (decide (1 ≤ k.length) && decide (k.length ≤ 20)) && !k.contains 58
theorem colon_at (l : List UInt8) (c : UInt8) : decide (0 ≤ Lib.indexByte l c) = l.contains c := by
  induction l with
  | nil => rfl
  | cons b l ih =>
    unfold Lib.indexByte
    rw [List.contains_cons]
    have hge := Lib.indexByte_ge l c
    by_cases h : b = c
    · subst h
      simp
    · have h1 : (b == c) = false := by simpa using h
      have h2 : (c == b) = false := by simpa using fun e => h e.symm
      rw [h1, h2, Bool.false_or, ← ih]
      simp only [Bool.false_eq_true, if_false]
      by_cases h3 : Lib.indexByte l c = -1
      · rw [h3]; rfl
      · have h4 : (Lib.indexByte l c == -1) = false := by simpa using h3
        rw [h4]
        simp only [Bool.false_eq_true, if_false]
        congr 1
        apply propext
        omega
/-- What path.Make answers. -/
def MakePost (k n : ByteArray) (d : List UInt8) (w : World) (e : Ending) (w' : World) : Prop :=
  Below w.heap.size w w' ∧ ∃ (s : ByteArray) (c : Int), e = .returned (.tuple #[.string s, .int .i64 c]) ∧ ((okMake k.data.toList n.data.toList = true ∧ s.data.toList = mkPath k.data.toList d n.data.toList ∧ c = 0) ∨ (okMake k.data.toList n.data.toList = false ∧ s = ⟨#[]⟩ ∧ c = 17))
theorem make_none (k n : ByteArray) (d : List UInt8) (w w' : World) (hb : Below w.heap.size w w') (h : okMake k.data.toList n.data.toList = false) : MakePost k n d w (.returned (.tuple #[.string ⟨#[]⟩, .int .i64 17])) w' :=
  ⟨hb, _, 17, rfl, Or.inr ⟨h, rfl, rfl⟩⟩
theorem within_any (n lo hi : Int) (w : World) : Calls Tryd.prog 45 #[.int .i64 n, .int .i64 lo, .int .i64 hi] w fun e w' => e = .returned (.bool (decide (lo ≤ n) && decide (n ≤ hi))) ∧ w = w' := by
  by_cases h : lo ≤ n
  · by_cases h2 : n ≤ hi
    · go_enter Tryd.func45, Tryd.ntmps45
      go_wp2_with fail
      go_ret
      exact ⟨by simp [h, h2], rfl⟩
    · go_enter Tryd.func45, Tryd.ntmps45
      go_wp2_with fail
      go_ret
      exact ⟨by simp [h, h2], rfl⟩
  · go_enter Tryd.func45, Tryd.ntmps45
    go_wp2_with fail
    go_ret
    exact ⟨by simp [h]; omega, rfl⟩
theorem bytes_of (W : World) (s : ByteArray) : ReadsB (Lib.bytesWorld W 5 s) (some ⟨W.heap.size, 0, none⟩) s.data.toList := fun _ =>
  ⟨_, rfl, fun j b hj => by
    obtain ⟨hlt, he⟩ := List.getElem?_eq_some_iff.1 hj
    have e : (⟨W.heap.size, 0, none⟩ : Addr).add j = ⟨W.heap.size, j, none⟩ := by unfold Addr.add; split <;> simp_all
    rw [e, Lib.bytesWorld_cell W 5 s j (by simpa using hlt)]
    rw [List.getD_eq_getElem?_getD, hj]
    rfl⟩
theorem below_bytes (W : World) (s : ByteArray) : Below W.heap.size W (Lib.bytesWorld W 5 s) :=
  ⟨rfl, rfl, rfl, by rw [Lib.bytesWorld_size]; omega, fun i hi => Lib.bytesWorld_at_old W 5 s i hi⟩
theorem join3 (a b c s : List UInt8) : Lib.join [a, b, c] s = a ++ (s ++ (b ++ (s ++ c))) := by
  simp [Lib.join, List.intercalate, List.intersperse]
theorem toList_data (s : ByteArray) : s.toList = s.data.toList := ByteArray.toList_eq s
theorem strL (l : List UInt8) : (⟨l.toArray⟩ : ByteArray).toList = l := ByteArray.toList_eq _
theorem short_say (l : List UInt8) (hl : l.length = 32) (w : World) :
    Calls Tryd.prog 27 #[.agg (cellsB l)] w fun e w' => ∃ u : ByteArray, e = .returned (.string u) ∧ u.toList = enc (fold l 32) ∧ Below w.heap.size w w' :=
  (short_any l hl w).mono fun _ _ ⟨h1, h2⟩ => ⟨_, h1, strL (enc (fold l 32)), h2⟩
theorem path_text (v n : ByteArray) (k d : List UInt8) (h : v.data.toList = enc (fold (Sha.sum (mkMsg k d n.data.toList)) 32)) :
    ((⟨#[47, 115, 116, 111, 114, 101, 47]⟩ : ByteArray) ++ v ++ ⟨#[45]⟩ ++ n).data.toList = mkPath k d n.data.toList := by
  unfold mkPath
  rw [← h]
  simp [storeL]
theorem short_len (l : List UInt8) : (enc (fold l 32)).length = 32 := by rw [enc_length, fold_length]

set_option maxHeartbeats 4000000 in
set_option maxRecDepth 100000 in
theorem make_any (k n : ByteArray) (d : List UInt8) (hd : d.length = 32) (hk : k.size ≤ 1048576) (hn : n.size ≤ 1048576) (w : World) (hR : Ranges w) (hCu : Cubes w) (hSq : Squares w) :
    Calls Tryd.prog 30 #[.string k, .agg (cellsB d), .string n] w (MakePost k n d w) := by
  have HD := Lib.hid hd
  have LK := Lib.hid hk
  have LN := Lib.hid hn
  have HR := Lib.hid hR
  have HCu := Lib.hid hCu
  have HSq := Lib.hid hSq
  have HSD : Hid ((cellsB d).size = 32) := by rw [Hid, cellsB_size]; exact hd
  have HB := Lib.hid (Blk.new w 42 (cellsB d))
  have HW := Lib.hid ((Below.refl w.heap.size w).alloc (Nat.le_refl _) (.cells (cellsB d) 42))
  have hkl : k.data.toList.length = k.size := by simp
  have hnl : n.data.toList.length = n.size := by simp
  clear hd hk hn hR hCu hSq
  by_cases hname : isName n.data.toList = true
  · have HNm : Hid (∀ W, Ranges W → Calls Tryd.prog 32 #[.string n] W fun e w' => e = .returned (.bool true) ∧ Below W.heap.size W w') := fun W h => by
      rw [← hname]; exact name_any n W h LN.out
    have HN27 : Hid (n.size ≤ 27) := by
      have h := hname
      unfold isName at h
      simp only [Bool.and_eq_true, decide_eq_true_eq] at h
      have h2 := h.2.1
      rw [hnl] at h2
      exact h2
    by_cases hlen : 1 ≤ k.size ∧ k.size ≤ 20
    · have HWi : Hid (∀ W, Calls Tryd.prog 45 #[.int .i64 (k.size : Int), .int .i64 1, .int .i64 20] W fun e w' => e = .returned (.bool true) ∧ W = w') := fun W => by
        have h := within_any (k.size : Int) 1 20 W
        have e1 : (decide ((1 : Int) ≤ (k.size : Int)) && decide ((k.size : Int) ≤ 20)) = true := by simp; omega
        rw [e1] at h
        exact h
      by_cases hcol : k.data.toList.contains 58 = true
      · have HCo : Hid (∀ W, Calls Tryd.prog 46 #[.string k, .string ⟨#[58]⟩] W fun e w' => e = .returned (.bool true) ∧ w' = W) := fun W => by
          have h := Tryd.strings_Contains_one k 58 W
          rw [colon_at, hcol] at h
          exact h
        have HNO : Hid (okMake k.data.toList n.data.toList = false) := by rw [Hid]; unfold okMake; rw [hcol]; simp
        clear hname hlen hcol hkl hnl
        go_enter Tryd.func30, Tryd.ntmps30
        go_wp2_with fail
        refine (HNm.out _ (HR.out.below HW.out)).mono ?_
        rintro e w1 ⟨rfl, hb1⟩
        have HW1 := Lib.hid (below_step' HW.out hb1)
        clear hb1
        go_wp2_with fail
        refine (HWi.out _).mono ?_
        rintro e w2 ⟨rfl, rfl⟩
        go_wp2_with fail
        refine (HCo.out _).mono ?_
        rintro e w2 ⟨rfl, rfl⟩
        go_wp2_with fail
        go_ret2
        exact make_none k n d w _ HW1.out HNO.out
      · have hcol' : k.data.toList.contains 58 = false := by simpa using hcol
        have HCo : Hid (∀ W, Calls Tryd.prog 46 #[.string k, .string ⟨#[58]⟩] W fun e w' => e = .returned (.bool false) ∧ w' = W) := fun W => by
          have h := Tryd.strings_Contains_one k 58 W
          rw [colon_at, hcol'] at h
          exact h
        have HOK : Hid (okMake k.data.toList n.data.toList = true) := by
          rw [Hid]; unfold okMake
          rw [hcol', hname, hkl]
          simp; omega
        have hk20 : k.size ≤ 20 := hlen.2
        clear hname hlen hcol hcol' hkl hnl
        go_enter Tryd.func30, Tryd.ntmps30
        go_wp2_with fail
        refine (HNm.out _ (HR.out.below HW.out)).mono ?_
        rintro e w1 ⟨rfl, hb1⟩
        have HB1 := Lib.hid (HB.out.below hb1 (Blk.lt HB.out))
        have HW1 := Lib.hid (below_step' HW.out hb1)
        clear hb1
        go_wp2_with fail
        refine (HWi.out _).mono ?_
        rintro e w2 ⟨rfl, rfl⟩
        go_wp2_with fail
        refine (HCo.out _).mono ?_
        rintro e w2 ⟨rfl, rfl⟩
        go_wp2_with (refine wpList_load_row rfl 42 (.tmp 4) rfl w.heap.size rfl 42 (cellsB d) (0, 0) _ HB1.out Tryd.underlying42 rfl (by rw [HSD.out]; kernel_rfl) ?_)
        refine (text_any d HD.out w2).mono ?_
        rintro e w3 ⟨u, rfl, hu, hb3⟩
        rw [toList_data] at hu
        have HU := Lib.hid hu
        have HUL : Hid (u.size = 52) := by
          have h := congrArg List.length hu
          rw [enc_length, HD.out] at h
          rw [Hid]
          simpa using h
        have HW3 := Lib.hid (below_step' HW1.out hb3)
        clear hb3 hu HB1 HW1
        have hJ0 : Calls Tryd.prog 47 #[.slice (some ⟨w3.heap.size, 0, none⟩) 3 3, .string ⟨#[58]⟩] (w3.alloc (.cells #[.string k, .string u, .string n] 9)) fun e w' => e = .returned (.string ⟨(Lib.join ([k, u, n].map (·.data.toList)) [58]).toArray⟩) ∧ Below (w3.heap.size + 1) (w3.alloc (.cells #[.string k, .string u, .string n] 9)) w' := by
          have h := Tryd.strings_Join w3.heap.size 0 3 [k, u, n] ⟨#[58]⟩ (w3.alloc (.cells #[.string k, .string u, .string n] 9)) (fun j x hj => by
            rw [cell_of_row _ _ _ _ _ _ (heap_alloc_new w3 _), Nat.zero_add]
            match j, hj with
            | 0, hj => simp at hj; subst hj; rfl
            | 1, hj => simp at hj; subst hj; rfl
            | 2, hj => simp at hj; subst hj; rfl
            | j + 3, hj => simp at hj) (by simp) (by simp) (by simp) (by
              simp only [List.map_cons, List.map_nil]
              rw [join3]
              simp only [List.length_append, Array.length_toList, List.length_cons, List.length_nil]
              have h1 := HUL.out
              have h2 := HN27.out
              simp only [ByteArray.size] at h1 h2 hk20
              omega)
          rw [World.size_alloc] at h
          exact h
        obtain ⟨m, hm⟩ : ∃ m : ByteArray, m = ⟨(Lib.join ([k, u, n].map (·.data.toList)) [58]).toArray⟩ := ⟨_, rfl⟩
        have HM : Hid (m.data.toList = mkMsg k.data.toList d n.data.toList) := by
          rw [Hid, hm]
          simp only [List.map_cons, List.map_nil]
          rw [join3, HU.out]
          rfl
        have hml : m.data.toList.length = m.size := by simp
        have HML : Hid (m.size ≤ 200) := by
          rw [Hid, ← hml, HM.out]
          unfold mkMsg
          simp only [List.length_append, List.length_cons, enc_length]
          have h1 := HD.out
          have h2 := HN27.out
          have h3 : k.data.toList.length = k.size := by simp
          have h4 : n.data.toList.length = n.size := by simp
          omega
        rw [← hm] at hJ0
        have HJ0 := Lib.hid hJ0
        have HS0 : Hid (∀ W, Cubes W → Squares W → Calls Tryd.prog 22 #[.slice (some ⟨W.heap.size, 0, none⟩) m.size (grownCap W m.size 0 5)] (Lib.bytesWorld W 5 m) fun e w' => e = .returned (.agg (cellsB (Sha.sum m.data.toList))) ∧ Below W.heap.size W w') := fun W h1 h2 => by
          have hbw := below_bytes W m
          have h := sum_any (some ⟨W.heap.size, 0, none⟩) m.data.toList (grownCap W m.size 0 5) (by rw [hml]; have := HML.out; omega) (by rw [hml]; exact grownCap_ge _ _ _ _) (fun h => by cases h) (Lib.bytesWorld W 5 m) (bytes_of W m) (h1.below hbw) (h2.below hbw)
          rw [hml] at h
          exact h.mono fun _ _ ⟨a, b⟩ => ⟨a, below_step' hbw b⟩
        have hkb := fun W => print_bytes (P := Tryd.prog) 9 22 5 Tryd.underlying9 Tryd.underlying22 Tryd.underlying5 m W
        obtain ⟨y, hy⟩ : ∃ y, y = Sha.sum m.data.toList := ⟨_, rfl⟩
        have HY : Hid (y.length = 32) := by rw [Hid, hy]; exact Sha.sum_length _
        rw [← hy] at HS0
        have HYS := Lib.hid hy
        have HSY : Hid ((cellsB y).size = 32) := by rw [Hid, cellsB_size]; exact HY.out
        have HZ : Hid ((cellsB (List.replicate 32 0)).size = (cellsB y).size) := by rw [HSY.out]; rfl
        clear hJ0 hm hml hy
        go_wp2_with fail
        refine HJ0.out.mono ?_
        rintro e w4 ⟨rfl, hb4⟩
        have HW4 : Hid (Below w.heap.size w w4) := (HW3.out.alloc HW3.out.size (.cells #[.string k, .string u, .string n] 9)).trans (hb4.mono (by have := HW3.out.size; omega))
        clear hb4 HW3 HJ0
        go_wp2_with fail
        refine (HS0.out w4 (HCu.out.below HW4.out) (HSq.out.below HW4.out)).mono ?_
        rintro e w5 ⟨rfl, hb5⟩
        have HW5 := Lib.hid (below_step' HW4.out hb5)
        clear hb5 HW4
        go_upto_region 4 with (refine wpList_store_row rfl 42 (.tmp 8) (.tmp 29) rfl w5.heap.size (cellsB y) rfl rfl 42 _ (Blk.new w5 42 (cellsB (List.replicate 32 0))) (by rw [HSY.out]; kernel_rfl) HZ.out (cellsB_one _) ?_)
        change Code.wp _ _ _ _ ((w5.alloc (.cells (cellsB (List.replicate 32 0)) 42)).setRow w5.heap.size (cellsB y))
        have HBy := Lib.hid (Blk.row (Blk.new w5 42 (cellsB (List.replicate 32 0))) (cellsB y))
        have HW6 : Hid (Below w.heap.size w ((w5.alloc (.cells (cellsB (List.replicate 32 0)) 42)).setRow w5.heap.size (cellsB y))) := below_setRow (HW5.out.alloc HW5.out.size _) HW5.out.size _
        generalize (w5.alloc (.cells (cellsB (List.replicate 32 0)) 42)).setRow w5.heap.size (cellsB y) = w6 at *
        clear HW5
        simp only [Act.put]
        go_wp2_with (refine wpList_load_row rfl 42 (.tmp 8) rfl w5.heap.size rfl 42 (cellsB y) (0, 0) _ HBy.out Tryd.underlying42 rfl (by rw [HSY.out]; kernel_rfl) ?_)
        refine (short_say y HY.out w6).mono ?_
        rintro e w7 ⟨v, rfl, hv, hb7⟩
        rw [toList_data] at hv
        have HVL : v.size ≤ 32 := by
          have h := congrArg List.length hv
          rw [short_len] at h
          have h2 : v.data.toList.length = v.size := by simp
          omega
        have HV := Lib.hid hv
        have HW7 := Lib.hid (below_step' HW6.out hb7)
        have hn27 := HN27.out
        clear hb7 hv
        go_wp2_with fail
        go_ret2
        refine ⟨HW7.out, _, 0, rfl, Or.inl ⟨HOK.out, ?_, rfl⟩⟩
        exact path_text v n k.data.toList d (by rw [HV.out, HYS.out, HM.out])
    · have HWi : Hid (∀ W, Calls Tryd.prog 45 #[.int .i64 (k.size : Int), .int .i64 1, .int .i64 20] W fun e w' => e = .returned (.bool false) ∧ W = w') := fun W => by
        have h := within_any (k.size : Int) 1 20 W
        have e1 : (decide ((1 : Int) ≤ (k.size : Int)) && decide ((k.size : Int) ≤ 20)) = false := by simp; omega
        rw [e1] at h
        exact h
      have HNO : Hid (okMake k.data.toList n.data.toList = false) := by
        rw [Hid]; unfold okMake
        have e1 : (decide (1 ≤ k.data.toList.length) && decide (k.data.toList.length ≤ 20)) = false := by rw [hkl]; simp; omega
        rw [e1]; simp
      clear hname hlen hkl hnl
      go_enter Tryd.func30, Tryd.ntmps30
      go_wp2_with fail
      refine (HNm.out _ (HR.out.below HW.out)).mono ?_
      rintro e w1 ⟨rfl, hb1⟩
      have HW1 := Lib.hid (below_step' HW.out hb1)
      clear hb1
      go_wp2_with fail
      refine (HWi.out _).mono ?_
      rintro e w2 ⟨rfl, rfl⟩
      go_wp2_with fail
      go_ret2
      exact make_none k n d w _ HW1.out HNO.out
  · have hname' : isName n.data.toList = false := by simpa using hname
    have HNm : Hid (∀ W, Ranges W → Calls Tryd.prog 32 #[.string n] W fun e w' => e = .returned (.bool false) ∧ Below W.heap.size W w') := fun W h => by
      rw [← hname']; exact name_any n W h LN.out
    have HNO : Hid (okMake k.data.toList n.data.toList = false) := by rw [Hid]; unfold okMake; rw [hname']; simp
    clear hname hname' hkl hnl
    go_enter Tryd.func30, Tryd.ntmps30
    go_wp2_with fail
    refine (HNm.out _ (HR.out.below HW.out)).mono ?_
    rintro e w1 ⟨rfl, hb1⟩
    have HW1 := Lib.hid (below_step' HW.out hb1)
    clear hb1
    go_wp2_with fail
    go_ret2
    exact make_none k n d w _ HW1.out HNO.out
end Go.Proofs.YtmaknbcfnigbmaaDoor
