/- The reference's Make of layer 9, walked. -/
import Derived.Test.YtmaknbcfnigbmaaDoorWalkMake
import Derived.Test.YtmaknbcfnigbmaaDoorWalkRefSum
import Derived.Test.YtmaknbcfnigbmaaDoorRefB
import Derived.Test.YtmaknbcfnigbmaaDoorWalkRefSplit
namespace Go.Proofs.YtmaknbcfnigbmaaDoor
open Go.RowKit Sig Names Go.Proofs.YtmaknbcfnigbmaaDoorW.PrintWords
set_option linter.unusedSimpArgs false
theorem refEncode_arr (l : List UInt8) (hl : l.length = 32) (g : Nat) (w : World) (hB : Blk w g 41 (cellsB l)) :
    Calls Tryd.prog 16 #[.slice (some ⟨g, 0, none⟩) 32 32] w fun e w' => ∃ s : ByteArray, e = .returned (.string s) ∧ s.toList = enc l ∧ Below w.heap.size w w' := by
  have he := refEncode_str (some ⟨g, 0, none⟩) l 32 w (Blk.reads hB) (by omega) (by omega)
  rw [hl] at he
  exact he
set_option maxHeartbeats 4000000 in
set_option maxRecDepth 100000 in
theorem refMake_any (k n : ByteArray) (d : List UInt8) (hd : d.length = 32) (hk : k.size ≤ 1048576) (hn : n.size ≤ 1048576) (w : World) :
    Calls Tryd.prog 31 #[.string k, .agg (cellsB d), .string n] w (MakePost k n d w) := by
  have HD := Lib.hid hd
  have LK := Lib.hid hk
  have LN := Lib.hid hn
  have HSD : Hid ((cellsB d).size = 32) := by rw [Hid, cellsB_size]; exact hd
  have HB := Lib.hid (Blk.new w 41 (cellsB d))
  have HW := Lib.hid ((Below.refl w.heap.size w).alloc (Nat.le_refl _) (.cells (cellsB d) 41))
  have hkl : k.data.toList.length = k.size := by simp
  have hnl : n.data.toList.length = n.size := by simp
  clear hd hk hn
  by_cases hname : isName n.data.toList = true
  · have HNm : Hid (∀ W, Calls Tryd.prog 33 #[.string n] W fun e w' => e = .returned (.bool true) ∧ Drawn0 W w') := fun W => by
      rw [← hname]; exact refName_any n W LN.out
    have HN27 : Hid (n.size ≤ 27) := by
      have h := hname
      unfold isName at h
      simp only [Bool.and_eq_true, decide_eq_true_eq] at h
      have h2 := h.2.1
      rw [hnl] at h2
      exact h2
    by_cases hlen : 1 ≤ k.size ∧ k.size ≤ 20
    · obtain ⟨hl1, hl2⟩ := hlen
      have HOKE : Hid (okMake k.data.toList n.data.toList = !k.data.toList.contains 58) := by
        rw [Hid]; unfold okMake
        rw [hname, hkl]
        have e1 : (decide (1 ≤ k.size) && decide (k.size ≤ 20)) = true := by simp; omega
        rw [e1]; simp
      clear hname hnl
      go_enter Tryd.func31, Tryd.ntmps31
      go_wp2_with fail
      refine (HNm.out _).mono ?_
      rintro e w1 ⟨rfl, ⟨nd, rfl⟩⟩
      have HB1 : Hid (Blk ((w.alloc (.cells (cellsB d) 41)).drewN nd) w.heap.size 41 (cellsB d)) := HB.out.drewN nd
      have HW1 : Hid (Below w.heap.size w ((w.alloc (.cells (cellsB d) 41)).drewN nd)) := below_drewN' HW.out nd
      generalize (w.alloc (.cells (cellsB d) 41)).drewN nd = w1 at *
      clear HB HW
      go_wp2_with fail
      go_loop [8] (fun t8 => ∃ i : Nat, t8 = .int .i64 i ∧ i ≤ k.size ∧ Hid ((k.data.toList.take i).contains 58 = false)) (fun t8 => k.size - (intOf t8).toNat)
      case atStart => exact ⟨0, rfl, Nat.zero_le _, rfl⟩
      case round =>
        obtain ⟨i, rfl, hi, HC⟩ := hrel
        by_cases hlt : i < k.size
        · have hlt' : i < k.data.toList.length := by rw [hkl]; exact hlt
          have HTK : Hid (k.data.toList.take (i + 1) = k.data.toList.take i ++ [k[i]]) := by
            rw [Hid, List.take_succ_eq_append_getElem hlt']; rfl
          by_cases h58 : k[i] = 58
          · have hb : ((k[i].toNat : Int) == 58) = true := by rw [h58]; rfl
            have HNO : Hid (okMake k.data.toList n.data.toList = false) := by
              rw [Hid, HOKE.out]
              have : k.data.toList.contains 58 = true := by
                rw [List.contains_iff_mem, ← h58]
                exact Array.mem_toList_iff.mpr (Array.getElem_mem hlt)
              rw [this]; rfl
            clear h58
            go_wp2_with fail
            go_ret2
            exact make_none k n d w _ HW1.out HNO.out
          · have hb : ((k[i].toNat : Int) == 58) = false := by
              rw [beq_eq_false_iff_ne]
              intro e
              apply h58
              apply UInt8.toNat_inj.mp
              have : (58 : UInt8).toNat = 58 := rfl
              omega
            have HC2 : Hid ((k.data.toList.take (i + 1)).contains 58 = false) := by
              rw [Hid, HTK.out, List.contains_append, HC.out]
              simp
              exact fun e => h58 e.symm
            clear h58
            go_wp2_with fail
            go_round
            case rel => exact ⟨i + 1, by go_num, by omega, HC2⟩
            case measure => simp [intOf]; omega
        · obtain rfl : i = k.size := by omega
          have HOK : Hid (okMake k.data.toList n.data.toList = true) := by
            have h := HC.out
            rw [List.take_of_length_le (by rw [hkl]; exact Nat.le_refl _)] at h
            rw [Hid, HOKE.out, h]; rfl
          clear HC hkl
          have hn27 := HN27.out
          go_wp2_with fail
          refine (refEncode_arr d HD.out w.heap.size w1 HB1.out).mono ?_
          rintro e w2 ⟨u, rfl, hu, hb2⟩
          rw [toList_data] at hu
          have hul : u.size ≤ 52 := by
            have h := congrArg List.length hu
            rw [enc_length, HD.out] at h
            have h2 : u.data.toList.length = u.size := by simp
            omega
          have HW2 := Lib.hid (below_step' HW1.out hb2)
          obtain ⟨m, hm⟩ : ∃ m : ByteArray, k ++ ⟨#[58]⟩ ++ u ++ ⟨#[58]⟩ ++ n = m := ⟨_, rfl⟩
          have HM : Hid (m.data.toList = mkMsg k.data.toList d n.data.toList) := by
            rw [Hid, ← hm]
            unfold mkMsg
            rw [← hu]
            simp
          have hml : m.data.toList.length = m.size := by simp
          have HML : Hid (m.size ≤ 200) := by
            rw [Hid, ← hml, HM.out]
            unfold mkMsg
            simp only [List.length_append, List.length_cons, enc_length]
            have h1 := HD.out
            have h3 : k.data.toList.length = k.size := by simp
            have h4 : n.data.toList.length = n.size := by simp
            omega
          have HS0 : Hid (∀ W, Calls Tryd.prog 29 #[.slice (some ⟨W.heap.size, 0, none⟩) m.size (grownCap W m.size 0 5)] (Lib.bytesWorld W 5 m) fun e w' => e = .returned (.agg (cellsB (Sha.sum m.data.toList))) ∧ Below W.heap.size W w') := fun W => by
            have hbw := below_bytes W m
            have h := refSum_any (some ⟨W.heap.size, 0, none⟩) m.data.toList (grownCap W m.size 0 5) (by rw [hml]; have := HML.out; omega) (by rw [hml]; exact grownCap_ge _ _ _ _) (fun h => by cases h) (Lib.bytesWorld W 5 m) (bytes_of W m)
            rw [hml] at h
            exact h.mono fun _ _ ⟨a, b⟩ => ⟨a, below_step' hbw b⟩
          have hkb := fun W => print_bytes (P := Tryd.prog) 9 22 5 Tryd.underlying9 Tryd.underlying22 Tryd.underlying5 m W
          obtain ⟨y, hy⟩ : ∃ y, y = Sha.sum m.data.toList := ⟨_, rfl⟩
          have HY : Hid (y.length = 32) := by rw [Hid, hy]; exact Sha.sum_length _
          rw [← hy] at HS0
          have HYS := Lib.hid hy
          have HSY : Hid ((cellsB y).size = 32) := by rw [Hid, cellsB_size]; exact HY.out
          have HZ : Hid ((cellsB (List.replicate 32 0)).size = (cellsB y).size) := by rw [HSY.out]; rfl
          clear hml hy hu hb2 HB1 HW1
          go_wp2_with fail
          refine (HS0.out w2).mono ?_
          rintro e w5 ⟨rfl, hb5⟩
          have HW5 := Lib.hid (below_step' HW2.out hb5)
          clear hb5 HW2 hm hkb
          go_upto_region 9 with (refine wpList_store_row rfl 41 (.tmp 9) (.tmp 42) rfl w5.heap.size (cellsB y) rfl rfl 41 _ (Blk.new w5 41 (cellsB (List.replicate 32 0))) (by rw [HSY.out]; kernel_rfl) HZ.out (cellsB_one _) ?_)
          change Code.wp _ _ _ _ ((w5.alloc (.cells (cellsB (List.replicate 32 0)) 41)).setRow w5.heap.size (cellsB y))
          have HBy := Lib.hid (Blk.row (Blk.new w5 41 (cellsB (List.replicate 32 0))) (cellsB y))
          have HW6 : Hid (Below w.heap.size w ((w5.alloc (.cells (cellsB (List.replicate 32 0)) 41)).setRow w5.heap.size (cellsB y))) := below_setRow (HW5.out.alloc HW5.out.size _) HW5.out.size _
          generalize (w5.alloc (.cells (cellsB (List.replicate 32 0)) 41)).setRow w5.heap.size (cellsB y) = w6 at *
          clear HW5
          simp only [Act.put]
          go_wp2_with (refine wpList_load_row rfl 41 (.tmp 9) rfl w5.heap.size rfl 41 (cellsB y) (0, 0) _ HBy.out Tryd.underlying41 rfl (by rw [HSY.out]; kernel_rfl) ?_)
          refine (refShort_any y HY.out w6).mono ?_
          rintro e w7 ⟨v, rfl, hv, hb7⟩
          rw [toList_data] at hv
          have HVL : v.size ≤ 32 := by
            have h := congrArg List.length hv
            rw [short_len] at h
            have h2 : v.data.toList.length = v.size := by simp
            omega
          have HV := Lib.hid hv
          have HW7 := Lib.hid (below_step' HW6.out hb7)
          clear hb7 hv
          go_wp2_with fail
          go_ret2
          refine ⟨HW7.out, _, 0, rfl, Or.inl ⟨HOK.out, ?_, rfl⟩⟩
          exact path_text v n k.data.toList d (by rw [HV.out, HYS.out, HM.out])
    · have HNO : Hid (okMake k.data.toList n.data.toList = false) := by
        rw [Hid]; unfold okMake
        have e1 : (decide (1 ≤ k.data.toList.length) && decide (k.data.toList.length ≤ 20)) = false := by rw [hkl]; simp; omega
        rw [e1]; simp
      clear hname hkl hnl
      by_cases hl1 : 1 ≤ k.size
      · have hl2 : 20 < k.size := by omega
        clear hlen
        go_enter Tryd.func31, Tryd.ntmps31
        go_wp2_with fail
        refine (HNm.out _).mono ?_
        rintro e w1 ⟨rfl, ⟨nd, rfl⟩⟩
        go_wp2_with fail
        go_ret2
        exact make_none k n d w _ (below_drewN' HW.out nd) HNO.out
      · have hl2 : k.size < 1 := by omega
        clear hlen hl1
        go_enter Tryd.func31, Tryd.ntmps31
        go_wp2_with fail
        refine (HNm.out _).mono ?_
        rintro e w1 ⟨rfl, ⟨nd, rfl⟩⟩
        go_wp2_with fail
        go_ret2
        exact make_none k n d w _ (below_drewN' HW.out nd) HNO.out
  · have hname' : isName n.data.toList = false := by simpa using hname
    have HNm : Hid (∀ W, Calls Tryd.prog 33 #[.string n] W fun e w' => e = .returned (.bool false) ∧ Drawn0 W w') := fun W => by
      rw [← hname']; exact refName_any n W LN.out
    have HNO : Hid (okMake k.data.toList n.data.toList = false) := by rw [Hid]; unfold okMake; rw [hname']; simp
    clear hname hname' hkl hnl
    go_enter Tryd.func31, Tryd.ntmps31
    go_wp2_with fail
    refine (HNm.out _).mono ?_
    rintro e w1 ⟨rfl, ⟨nd, rfl⟩⟩
    go_wp2_with fail
    go_ret2
    exact make_none k n d w _ (below_drewN' HW.out nd) HNO.out
end Go.Proofs.YtmaknbcfnigbmaaDoor
