/- The reference's Split, and path.Base, walked. -/
import Derived.Test.YtmaknbcfnigbmaaDoorWalkSplit
set_option linter.unusedSimpArgs false
set_option linter.unusedVariables false
namespace Go.Proofs.YtmaknbcfnigbmaaDoor
open Go.RowKit Sig Names Go.Proofs.YtmaknbcfnigbmaaDoor.PPathSplits Go.Proofs.YtmaknbcfnigbmaaDoorW.PrintWords

theorem store_list : storeB.toList = [47, 115, 116, 111, 114, 101, 47] := ByteArray.toList_eq _
theorem sz_extract (s : ByteArray) (a b : Nat) (h : s.size ≤ 1048576) : (s.extract a b).size ≤ 1048576 := by
  rw [ByteArray.size_extract]; omega
theorem refName_any (s : ByteArray) (w : World) (hs : s.size ≤ 1048576) : Calls Tryd.prog 33 #[.string s] w fun e w' => e = .returned (.bool (isName s.data.toList)) ∧ Drawn0 w w' :=
  stillroomref09_Name.calls (s.size + 1) s (isName s.data.toList) w (name_f s (by omega) _ (Nat.le_refl _))
set_option maxHeartbeats 2000000 in
set_option maxRecDepth 100000 in
theorem refSplit_any (s : ByteArray) (w : World) (hs : s.size ≤ 1048576) :
    Calls Tryd.prog 19 #[.string s] w fun e w' => e = .returned (splitVal s) ∧ Below w.heap.size w w' := by
  have LS := Lib.hid hs
  clear hs
  by_cases h41 : 41 ≤ s.size
  · have hlt : decide ((s.size : Int) < 41) = false := decide_eq_false (by omega)
    have h7i : (7 : Int) ≤ (s.size : Int) := by omega
    have h39i : (39 : Int) < (s.size : Int) := by omega
    have h39j : (39 : Int) ≤ (s.size : Int) := by omega
    have h40i : (40 : Int) ≤ (s.size : Int) := by omega
    have h39n : 39 < s.size := by omega
    by_cases hpre : (s.extract 0 7).toList = storeB.toList
    · have hpb : (s.extract 0 7).toList = [47, 115, 116, 111, 114, 101, 47] := by rw [hpre, store_list]
      have hat : s[39] = s.data.toList.getD 39 0 := by
        have h3 : 39 < s.data.toList.length := by simpa using h39n
        rw [List.getD_eq_getElem?_getD, List.getElem?_eq_getElem h3, Option.getD_some]
        rfl
      by_cases h45 : s.data.toList.getD 39 0 = 45
      · have hd : ((s[39].toNat : Int) != 45) = false := by rw [hat, h45]; rfl
        have HNAME : Hid (∀ W, Calls Tryd.prog 33 #[.string (s.extract 40 s.size)] W fun e w' => e = .returned (.bool (isName (s.extract 40 s.size).data.toList)) ∧ Drawn0 W w') := fun W => refName_any _ W (sz_extract s 40 s.size LS.out)
        have HDEC : Hid (∀ W, Calls Tryd.prog 15 #[.string (s.extract 7 39)] W fun e w' => ∃ v acc n, e = .returned (.tuple #[v, .int .i64 n]) ∧ DecText (s.extract 7 39) W.heap.size w' v acc n ∧ Below W.heap.size W w') := fun W => refDecode_text _ W (by have := sz_extract s 7 39 LS.out; omega)
        have HGO : Hid (isName (s.extract 40 s.size).data.toList = true → (∃ acc, enc acc = (s.extract 7 39).data.toList) → Good s) := fun h1 h2 => ⟨h41, hpre, h45, h1, h2⟩
        cases hn : isName (s.extract 40 s.size).data.toList
        · have HV := Lib.hid (split_bad (s := s) (fun h => by have h4 := h.2.2.2.1; rw [hn] at h4; cases h4))
          rw [hn] at HNAME
          clear hat hpre h41 h45 hn HDEC HGO
          rw [HV.out]
          go_enter Tryd.func19, Tryd.ntmps19
          go_wp2_with fail
          refine (HNAME.out _).mono ?_
          rintro e w1 ⟨rfl, ⟨nd, rfl⟩⟩
          go_wp2_with fail
          go_ret3
          exact ⟨rfl, below_drewN' (Below.refl _ _) _⟩
        · rw [hn] at HNAME
          clear hat hpre h41 h45
          have HN := Lib.hid hn
          clear hn
          go_enter Tryd.func19, Tryd.ntmps19
          go_wp2_with fail
          refine (HNAME.out _).mono ?_
          rintro e w1 ⟨rfl, ⟨nd, rfl⟩⟩
          go_wp2_with fail
          refine (HDEC.out (w.drewN nd)).mono ?_
          rintro e w2 ⟨v, acc, n, rfl, hdt, hb⟩
          have HB2 := Lib.hid (below_step' (below_drewN' (Below.refl _ w) nd) hb)
          clear hb
          rcases hdt with ⟨_, ⟨henc, rfl⟩ | ⟨hno, rfl, rfl⟩⟩
          · have HV := Lib.hid (split_good (s := s) (HGO.out HN.out ⟨acc, henc⟩))
            clear henc
            go_wp2_with fail
            go_quiet (fail)
            go_wp2_with fail
            go_ret3
            exact ⟨by rw [HV.out]; rfl, below_drewN' HB2.out _⟩
          · have HV := Lib.hid (split_bad (s := s) (fun h => by obtain ⟨acc, ha⟩ := h.2.2.2.2; exact hno acc ha))
            clear hno
            go_wp2_with fail
            go_ret3
            exact ⟨by rw [HV.out]; rfl, HB2.out⟩
      · have hd : ((s[39].toNat : Int) != 45) = true := by
          rw [bne_iff_ne, hat]
          intro h
          exact h45 (UInt8.toNat_inj.1 (by have h46 : (45 : UInt8).toNat = 45 := rfl; have h' := Int.ofNat.inj h; rw [h46]; exact h'))
        have HV := Lib.hid (split_bad (s := s) (fun h => h45 h.2.2.1))
        clear hat hpre h45 h41
        rw [HV.out]
        go_enter Tryd.func19, Tryd.ntmps19
        go_wp2_with fail
        go_ret3
        exact ⟨rfl, Below.refl _ _⟩
    · have hpb : ¬ (s.extract 0 7).toList = [47, 115, 116, 111, 114, 101, 47] := by rw [← store_list]; exact hpre
      have HV := Lib.hid (split_bad (s := s) (fun h => hpre h.2.1))
      clear hpre h41
      rw [HV.out]
      go_enter Tryd.func19, Tryd.ntmps19
      go_wp2_with fail
      go_ret3
      exact ⟨rfl, Below.refl _ _⟩
  · have hlt : decide ((s.size : Int) < 41) = true := decide_eq_true (by omega)
    have HV := Lib.hid (split_bad (s := s) (fun h => h41 h.1))
    clear h41
    rw [HV.out]
    go_enter Tryd.func19, Tryd.ntmps19
    go_wp2_with fail
    go_ret3
    exact ⟨rfl, Below.refl _ _⟩
end Go.Proofs.YtmaknbcfnigbmaaDoor
