/- path.Split, walked. -/
import Derived.Test.YtmaknbcfnigbmaaDoorWalkName
import Derived.Test.YtmaknbcfnigbmaaDoorPPathSplitsx1
set_option linter.unusedSimpArgs false
set_option linter.unusedVariables false
namespace Go.Proofs.YtmaknbcfnigbmaaDoor
open Go.RowKit Sig Names Go.Proofs.YtmaknbcfnigbmaaDoor.PPathSplits Go.Proofs.YtmaknbcfnigbmaaDoorW.PrintWords

def storeB : ByteArray := ⟨#[47, 115, 116, 111, 114, 101, 47]⟩
/-- Is it a path? -/
def Good (s : ByteArray) : Prop := 41 ≤ s.size ∧ (s.extract 0 7).toList = storeB.toList ∧ s.data.toList.getD 39 0 = 45 ∧ isName (s.extract 40 s.size).data.toList = true ∧ ∃ acc, enc acc = (s.extract 7 39).data.toList
open Classical in
noncomputable def splitVal (s : ByteArray) : Value := if Good s then .tuple #[.string (s.extract 7 39), .string (s.extract 40 s.size), .int .i64 0] else .tuple #[.string ⟨#[]⟩, .string ⟨#[]⟩, .int .i64 17]
theorem split_bad {s : ByteArray} (h : ¬ Good s) : splitVal s = .tuple #[.string ⟨#[]⟩, .string ⟨#[]⟩, .int .i64 17] := by unfold splitVal; rw [if_neg h]
theorem split_good {s : ByteArray} (h : Good s) : splitVal s = .tuple #[.string (s.extract 7 39), .string (s.extract 40 s.size), .int .i64 0] := by unfold splitVal; rw [if_pos h]

theorem cut_yes (s : ByteArray) (h7 : 7 ≤ s.size) (hp : (s.extract 0 7).toList = storeB.toList) : strings_CutPrefix.f s storeB = some (s.extract 7 s.size, true) := by
  have hz : (storeB.size : Int) = 7 := rfl
  unfold strings_CutPrefix.f stringslite_CutPrefix.f stringslite_HasPrefix.f
  rw [hz, if_pos (by omega), if_pos (by omega), if_pos (by omega)]
  have : ((s.extract 0 ((7 : Int)).toNat).toList == storeB.toList) = true := by
    rw [beq_iff_eq]; exact hp
  rw [this]
  simp only [Option.bind_some, if_true]
  rw [if_pos (by omega), if_pos (by omega)]
  rfl
theorem cut_no (s : ByteArray) (hp : ¬ (7 ≤ s.size ∧ (s.extract 0 7).toList = storeB.toList)) : strings_CutPrefix.f s storeB = some (s, false) := by
  have hz : (storeB.size : Int) = 7 := rfl
  unfold strings_CutPrefix.f stringslite_CutPrefix.f stringslite_HasPrefix.f
  rw [hz]
  by_cases h7 : 7 ≤ s.size
  · rw [if_pos (by omega), if_pos (by omega), if_pos (by omega)]
    have : ((s.extract 0 ((7 : Int)).toNat).toList == storeB.toList) = false := by
      rw [beq_eq_false_iff_ne]; exact fun h => hp ⟨h7, h⟩
    rw [this]
    simp
  · rw [if_neg (by omega)]
    simp
theorem ext_list {a b : ByteArray} (h : a.data.toList = b.data.toList) : a = b := ByteArray.ext (Array.toList_inj.1 h)
theorem extract_list (s : ByteArray) (a b : Nat) : (s.extract a b).data.toList = (s.data.toList.drop a).take (b - a) := by
  rw [ByteArray.data_extract, Array.toList_extract]
theorem extract_rest (s : ByteArray) (a : Nat) : (s.extract a s.size).data.toList = s.data.toList.drop a := by
  rw [extract_list]
  exact List.take_of_length_le (by rw [List.length_drop]; simp)
theorem rest_name (s r : ByteArray) (hr : r = s.extract 7 s.size) : r.extract 33 r.size = s.extract 40 s.size := by
  apply ext_list
  rw [extract_rest, extract_rest, hr, extract_rest, List.drop_drop]
theorem rest_signs (s r : ByteArray) (hr : r = s.extract 7 s.size) : r.extract 0 32 = s.extract 7 39 := by
  apply ext_list
  rw [extract_list, hr, extract_rest, extract_list, List.drop_zero]
theorem rest_at (s r : ByteArray) (hr : r = s.extract 7 s.size) (h2 : 32 < r.size) : r[32] = s.data.toList.getD 39 0 := by
  have h3 : 32 < r.data.toList.length := by simpa using h2
  have h4 : r[32] = r.data.toList.getD 32 0 := by
    rw [List.getD_eq_getElem?_getD, List.getElem?_eq_getElem h3, Option.getD_some]
    rfl
  rw [h4, hr, extract_rest, List.getD_eq_getElem?_getD, List.getElem?_drop, ← List.getD_eq_getElem?_getD]
theorem rest_size (s r : ByteArray) (hr : r = s.extract 7 s.size) : r.size = s.size - 7 := by rw [hr]; simp [ByteArray.size_extract]

set_option maxHeartbeats 2000000 in
set_option maxRecDepth 100000 in
theorem split_any (s : ByteArray) (w : World) (hT : Tails w) (hR : Ranges w) (hs : s.size ≤ 1048576) :
    Calls Tryd.prog 18 #[.string s] w fun e w' => e = .returned (splitVal s) ∧ Below w.heap.size w w' := by
  have HT := Lib.hid hT
  have HRA := Lib.hid hR
  have LS := Lib.hid hs
  clear hT hR hs
  by_cases hp : 7 ≤ s.size ∧ (s.extract 0 7).toList = storeB.toList
  · obtain ⟨h7, hpre⟩ := hp
    obtain ⟨r, hr⟩ : ∃ r : ByteArray, r = s.extract 7 s.size := ⟨_, rfl⟩
    have hcut := cut_yes s h7 hpre
    rw [← hr] at hcut
    have HCUT := Lib.hid (strings_CutPrefix.calls s storeB r true w hcut)
    have hz := rest_size s r hr
    by_cases h41 : 40 ≤ s.size
    · have h32 : 32 < r.size := by omega
      have hat := rest_at s r hr h32
      have hnm := rest_name s r hr
      have hsg := rest_signs s r hr
      by_cases h45 : s.data.toList.getD 39 0 = 45
      · have hd : ((r[32].toNat : Int) != 45) = false := by rw [hat, h45]; rfl
        have HLE : Hid (decide ((r.size : Int) ≤ 32) = false) := by rw [Hid, decide_eq_false_iff_not]; omega
        have hle := HLE.out
        have hri : (32 : Int) < (r.size : Int) := by omega
        have hri3 : (33 : Int) ≤ (r.size : Int) := by omega
        have hri2 : (32 : Int) ≤ (r.size : Int) := by omega
        have HNM := Lib.hid hnm
        have HSG := Lib.hid hsg
        have hsz33 : (r.extract 33 r.size).size ≤ 1048576 := by have := LS.out; rw [hnm]; simp [ByteArray.size_extract]; omega
        have hsz32 : (r.extract 0 32).size ≤ 1048576 := by have := LS.out; rw [hsg]; simp [ByteArray.size_extract]; omega
        have HNAME : Hid (∀ W, Ranges W → Calls Tryd.prog 32 #[.string (r.extract 33 r.size)] W fun e w' => e = .returned (.bool (isName (s.extract 40 s.size).data.toList)) ∧ Below W.heap.size W w') := fun W h => by
          rw [← hnm]
          exact name_any _ W h hsz33
        have HDEC : Hid (∀ W, Tails W → Calls Tryd.prog 14 #[.string (r.extract 0 32)] W fun e w' => ∃ v acc n, e = .returned (.tuple #[v, .int .i64 n]) ∧ DecText (s.extract 7 39) W.heap.size w' v acc n ∧ Below W.heap.size W w') := fun W h => by
          rw [← hsg]
          exact decode_text _ W h (by omega)
        have HGO : Hid (isName (s.extract 40 s.size).data.toList = true → (∃ acc, enc acc = (s.extract 7 39).data.toList) → Good s) := fun h1 h2 => ⟨by
          have hl : 1 ≤ (s.extract 40 s.size).data.toList.length := by
            unfold isName at h1
            rw [Bool.and_eq_true, decide_eq_true_eq] at h1
            exact h1.1
          rw [extract_rest, List.length_drop] at hl
          simp at hl
          omega, hpre, h45, h1, h2⟩
        cases hn : isName (s.extract 40 s.size).data.toList
        · have HV := Lib.hid (split_bad (s := s) (fun h => by have h4 := h.2.2.2.1; rw [hn] at h4; cases h4))
          rw [hn] at HNAME
          clear hat hnm hsg hr hz hcut hpre h7 h41 h45 hn hsz33 hsz32 HDEC HGO
          rw [HV.out]
          go_enter Tryd.func18, Tryd.ntmps18
          go_wp2_with fail
          refine HCUT.out.mono ?_
          rintro e w1 ⟨rfl, ⟨nd, rfl⟩⟩
          go_wp2_with fail
          refine (HNAME.out (w.drewN nd) (HRA.out)).mono ?_
          rintro e w1 ⟨rfl, hb⟩
          have HB := Lib.hid (below_step' (below_drewN' (Below.refl _ w) nd) hb)
          clear hb
          go_wp2_with fail
          go_ret3
          exact ⟨rfl, HB.out⟩
        · rw [hn] at HNAME
          clear hat hr hz hcut hpre h7 h41 h45 hsz33 hsz32 hnm hsg
          have HN := Lib.hid hn
          clear hn
          go_enter Tryd.func18, Tryd.ntmps18
          go_wp2_with fail
          refine HCUT.out.mono ?_
          rintro e w1 ⟨rfl, ⟨nd, rfl⟩⟩
          go_wp2_with fail
          refine (HNAME.out (w.drewN nd) (HRA.out)).mono ?_
          rintro e w1 ⟨rfl, hb⟩
          have HB : Hid (Below w.heap.size w w1) := below_step' (below_drewN' (Below.refl _ w) nd) hb
          clear hb
          go_wp2_with fail
          refine (HDEC.out _ (HT.out.below HB.out)).mono ?_
          rintro e w2 ⟨v, acc, n, rfl, hdt, hb⟩
          have HB2 := Lib.hid (below_step' HB.out hb)
          clear hb
          rcases hdt with ⟨_, ⟨henc, rfl⟩ | ⟨hno, rfl, rfl⟩⟩
          · have HV := Lib.hid (split_good (s := s) (HGO.out HN.out ⟨acc, henc⟩))
            clear henc
            go_wp2_with fail
            go_quiet (fail)
            go_wp2_with fail
            go_ret3
            exact ⟨by rw [HV.out, ← HSG.out, ← HNM.out]; rfl, below_drewN' HB2.out _⟩
          · have HV := Lib.hid (split_bad (s := s) (fun h => by obtain ⟨acc, ha⟩ := h.2.2.2.2; exact hno acc ha))
            clear hno
            go_wp2_with fail
            go_ret3
            exact ⟨by rw [HV.out]; rfl, HB2.out⟩
      · have hd : ((r[32].toNat : Int) != 45) = true := by
          rw [bne_iff_ne, hat]
          intro h
          exact h45 (UInt8.toNat_inj.1 (by have h46 : (45 : UInt8).toNat = 45 := rfl; have h' := Int.ofNat.inj h; rw [h46]; exact h'))
        have HV := Lib.hid (split_bad (s := s) (fun h => h45 h.2.2.1))
        have HLE : Hid (decide ((r.size : Int) ≤ 32) = false) := by rw [Hid, decide_eq_false_iff_not]; omega
        have hle := HLE.out
        have hri : (32 : Int) < (r.size : Int) := by omega
        clear hat hnm hsg hr hz hcut hpre h7 h41 h45
        rw [HV.out]
        go_enter Tryd.func18, Tryd.ntmps18
        go_wp2_with fail
        refine HCUT.out.mono ?_
        rintro e w1 ⟨rfl, ⟨nd, rfl⟩⟩
        go_wp2_with fail
        go_ret3
        exact ⟨rfl, below_drewN' (Below.refl _ _) _⟩
    · have HV := Lib.hid (split_bad (s := s) (fun h => h41 (Nat.le_trans (by decide) h.1)))
      have HLE : Hid (decide ((r.size : Int) ≤ 32) = true) := decide_eq_true (by omega)
      have hle := HLE.out
      clear hr hz hcut hpre h7 h41
      rw [HV.out]
      go_enter Tryd.func18, Tryd.ntmps18
      go_wp2_with fail
      refine HCUT.out.mono ?_
      rintro e w1 ⟨rfl, ⟨nd, rfl⟩⟩
      go_wp2_with fail
      go_ret3
      exact ⟨rfl, below_drewN' (Below.refl _ _) _⟩
  · have HCUT := Lib.hid (strings_CutPrefix.calls s storeB s false w (cut_no s hp))
    have HV := Lib.hid (split_bad (s := s) (fun h => hp ⟨Nat.le_trans (by decide) h.1, h.2.1⟩))
    clear hp
    rw [HV.out]
    go_enter Tryd.func18, Tryd.ntmps18
    go_wp2_with fail
    refine HCUT.out.mono ?_
    rintro e w1 ⟨rfl, ⟨nd, rfl⟩⟩
    go_wp2_with fail
    go_ret3
    exact ⟨rfl, below_drewN' (Below.refl _ _) _⟩
end Go.Proofs.YtmaknbcfnigbmaaDoor
