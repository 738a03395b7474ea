/- path.Name, walked. Condition: the table of the ranges holds what its initialiser lays. -/
import Derived.Test.YtmaknbcfnigbmaaDoorPureName
import Derived.Test.YtmaknbcfnigbmaaDoorDig
import Derived.Deep.MidRow
import Derived.Deep.RegionHeld3
import Derived.Deep.QuietTactic
import Derived.BigQuiet
import Derived.WalkMore
import Derived.Deep.CutBlock
import Derived.Deep.DeepCutAuto
set_option linter.unusedSimpArgs false
set_option linter.unusedVariables false
namespace Go.Proofs.YtmaknbcfnigbmaaDoor
open Go.RowKit Sig Names Go.Proofs.YtmaknbcfnigbmaaDoor.PPathSplits Go.Proofs.YtmaknbcfnigbmaaDoorW.PrintWords

/-- The ranges. -/
def rangeB : List UInt8 := [97, 122, 65, 90, 48, 57, 43, 43, 45, 45, 46, 46, 95, 95]
def Ranges (w : World) : Prop := w.rangeAt 2 0 (Lib.byteCells rangeB)
theorem Ranges.below {w w1 : World} (h : Ranges w) (hb : Below w.heap.size w w1) : Ranges w1 := fun j v hj => (hb.cell (World.block_lt_of_cell? w _ (h j v hj))).trans (h j v hj)
theorem within_byte (c lo hi : UInt8) (w : World) : Calls Tryd.prog 48 #[.int .u8 (c.toNat : Int), .int .u8 (lo.toNat : Int), .int .u8 (hi.toNat : Int)] w fun e w' => e = .returned (.bool (within c lo hi)) ∧ w' = w := by
  unfold within
  by_cases h : lo.toNat ≤ c.toNat
  · go_enter Tryd.func48, Tryd.ntmps48
    go_wp2_with fail
    go_ret
    exact ⟨by simp [h], rfl⟩
  · go_enter Tryd.func48, Tryd.ntmps48
    go_wp2_with fail
    go_ret
    exact ⟨by simp [h], rfl⟩
/-- Does a byte lie in range m? -/
def matchAt (c : UInt8) (m : Nat) : Bool := within c (rangeB.getD (2 * m) 0) (rangeB.getD (2 * m + 1) 0)
theorem nsign_any (c : UInt8) : nsign c = (List.range 7).any (matchAt c) := by
  show nsign c = (matchAt c 0 || (matchAt c 1 || (matchAt c 2 || (matchAt c 3 || (matchAt c 4 || (matchAt c 5 || (matchAt c 6 || false)))))))
  unfold nsign
  simp only [Bool.or_assoc, Bool.or_false]
  rfl
theorem index_two (j : Nat) (lo hi : UInt8) (hj : j < 7) (hlo : rangeB[2 * j]? = some lo) (hhi : rangeB[2 * j + 1]? = some hi) (w : World) :
    (Instr.index 95 (.agg (Lib.byteCells rangeB).toArray) (.int .i64 (j : Int))).run Tryd.prog w = .ok (.agg #[.int .u8 (lo.toNat : Int), .int .u8 (hi.toNat : Int)]) w := by
  obtain ⟨i, hi0, hz1⟩ : ∃ i, Tryd.prog.info? 94 = some i ∧ i.size = 2 := by
    have h : (Tryd.prog.info? 94).map (·.size) = some 2 := by kernel_rfl
    simpa [Option.map_eq_some_iff] using h
  rcases (by omega : j = 0 ∨ j = 1 ∨ j = 2 ∨ j = 3 ∨ j = 4 ∨ j = 5 ∨ j = 6) with rfl | rfl | rfl | rfl | rfl | rfl | rfl <;>
    (simp [rangeB] at hlo hhi; subst hlo hhi; simp [Instr.index, run_underlying Tryd.underlying95, asIntOf, go_sem, sizeOf, typeInfo, hi0, hz1, part, isAgg, run_underlying Tryd.underlying94, rangeB, Lib.byteCells])
theorem within_len (n : Nat) (b : Bool) (hb : b = (decide (1 ≤ n) && decide (n ≤ 27))) (w : World) : Calls Tryd.prog 45 #[.int .i64 (n : Int), .int .i64 1, .int .i64 27] w fun e w' => e = .returned (.bool b) ∧ w = w' := by
  subst hb
  by_cases h : (1 : Int) ≤ (n : Int)
  · by_cases h2 : (n : Int) ≤ 27
    · go_enter Tryd.func45, Tryd.ntmps45
      go_wp2_with fail
      go_ret
      refine ⟨?_, rfl⟩
      have e1 : decide (1 ≤ n) = true := by simp; omega
      have e2 : decide (n ≤ 27) = true := by simp; omega
      rw [e1, e2]
      simp [h2]
    · go_enter Tryd.func45, Tryd.ntmps45
      go_wp2_with fail
      go_ret
      refine ⟨?_, rfl⟩
      have e2 : decide (n ≤ 27) = false := by simp; omega
      rw [e2, Bool.and_false]
      simp [h2]
  · go_enter Tryd.func45, Tryd.ntmps45
    go_wp2_with fail
    go_ret
    refine ⟨?_, rfl⟩
    have e1 : decide (1 ≤ n) = false := by simp; omega
    rw [e1, Bool.false_and]
    simp [h]
set_option maxHeartbeats 2000000 in
set_option maxRecDepth 100000 in
theorem name_any (s : ByteArray) (w : World) (hT : Ranges w) (hs : s.size ≤ 1048576) :
    Calls Tryd.prog 32 #[.string s] w fun e w' => e = .returned (.bool (isName s.data.toList)) ∧ Below w.heap.size w w' := by
  have HT := Lib.hid hT
  have LS := Lib.hid hs
  have hlen : s.data.toList.length = s.size := by simp
  clear hT hs
  by_cases hsz : 1 ≤ s.size ∧ s.size ≤ 27
  · obtain ⟨h1, h27⟩ := hsz
    have hb : true = (decide (1 ≤ s.size) && decide (s.size ≤ 27)) := by rw [decide_eq_true h1, decide_eq_true h27]; rfl
    have HBB := Lib.hid hb
    have HLN := Lib.hid hlen
    have hg0 : s.data.toList.getD 0 0 = s[0] := by
      rw [List.getD_eq_getElem?_getD, List.getElem?_eq_getElem (by omega), Option.getD_some]
      rfl
    have HNM : Hid (isName s.data.toList = ((s[0] != 46) && s.data.toList.all nsign)) := by
      unfold isName
      rw [Hid, hlen, decide_eq_true h1, decide_eq_true h27, hg0]
      rfl
    have hpos : 0 < s.size := h1
    clear hb hlen hg0
    by_cases hdot : s[0] = 46
    · have hn : Hid (isName s.data.toList = false) := by rw [Hid, HNM.out, hdot]; rfl
      have hd : ((s[0].toNat : Int) == 46) = true := by rw [hdot]; rfl
      rw [hn.out]
      clear hdot
      go_enter Tryd.func32, Tryd.ntmps32
      go_wp2_with fail
      go_step3
      go_wp2_with (go_at_call 45; refine (within_len s.size true HBB.out _).mono ?_; rintro e w1 ⟨rfl, rfl⟩)
      simp only [Exit.noGoto_ret]
      go_ret
      exact ⟨rfl, Below.refl _ _⟩
    · have hn : Hid (isName s.data.toList = s.data.toList.all nsign) := by
        rw [Hid, HNM.out, bne_iff_ne.2 hdot]; rfl
      have hd : ((s[0].toNat : Int) == 46) = false := by
        rw [beq_eq_false_iff_ne]
        intro h
        apply hdot
        exact UInt8.toNat_inj.1 (by have h46 : (46 : UInt8).toNat = 46 := rfl; omega)
      clear hdot HNM
      go_enter Tryd.func32, Tryd.ntmps32
      go_wp2_with fail
      go_step3
      go_wp2_with (go_at_call 45; refine (within_len s.size true HBB.out _).mono ?_; rintro e w1 ⟨rfl, rfl⟩)
      go_step3
      go_wp2_with fail
      go_loopw [17] (fun t17 wr => ∃ i : Nat, t17 = .int .i64 i ∧ i ≤ s.size ∧ Hid ((s.data.toList.take i).all nsign = true) ∧ Hid (Below w.heap.size w wr)) (fun t17 _ => s.size - (intOf t17).toNat)
      case atStart => exact ⟨0, rfl, by omega, by simp [Hid], Below.refl _ _⟩
      case round =>
        obtain ⟨i, rfl, hi, HA, HW⟩ := hrel
        by_cases hlt : i < s.size
        · have HR : Hid (Ranges wr) := HT.out.below HW.out
          go_wp2_with (refine wpList_load_mid rfl 95 (.global 2) rfl 2 0 rfl (Lib.byteCells rangeB) _ HR.out Tryd.underlying95 rfl (by kernel_rfl) ?_)
          obtain ⟨wo, rfl⟩ : ∃ wo : World, wo = wr := ⟨_, rfl⟩
          obtain ⟨c, hc⟩ : ∃ c : UInt8, c = s[i] := ⟨_, rfl⟩
          have HCC := Lib.hid hc
          go_loopw [21] (fun t21 wi => ∃ j : Nat, t21 = .int .i64 j ∧ j ≤ 7 ∧ Hid (∀ m, m < j → matchAt c m = false) ∧ Hid (Below w.heap.size w wi)) (fun t21 _ => 7 - (intOf t21).toNat)
          case atStart => exact ⟨0, rfl, by omega, fun m hm => by omega, HW.out⟩
          case round =>
            obtain ⟨j, rfl, hj, HM, HWI⟩ := hrel
            by_cases hj7 : j < 7
            · obtain ⟨lo, hlo⟩ : ∃ lo, rangeB[2 * j]? = some lo := ⟨_, List.getElem?_eq_getElem (by show 2 * j < 14; omega)⟩
              obtain ⟨hi', hhi⟩ : ∃ hi, rangeB[2 * j + 1]? = some hi := ⟨_, List.getElem?_eq_getElem (by show 2 * j + 1 < 14; omega)⟩
              have hix := fun W => index_two j lo hi' hj7 hlo hhi W
              have HMJ : Hid (matchAt c j = within c lo hi') := by
                unfold matchAt
                rw [Hid, List.getD_eq_getElem?_getD, hlo, List.getD_eq_getElem?_getD, hhi]
                rfl
              clear hlo hhi
              have hjd : decide ((j : Int) < 7) = true := by rw [decide_eq_true_eq]; omega
              have hil : (i : Int) < (s.size : Int) := by omega
              go_upto_region 9 with (fail)
              have hb1 : Below w.heap.size w (wr.alloc (.cells #[.int .u8 (lo.toNat : Int), .int .u8 (hi'.toNat : Int)] 94)) := HWI.out.alloc HWI.out.size _
              have hbk := heap_alloc_new wr (.cells #[.int .u8 (lo.toNat : Int), .int .u8 (hi'.toNat : Int)] 94)
              have hk0 := (cell_of_row _ wr.heap.size 0 _ _ _ hbk).trans rfl
              have hk1 := (cell_of_row _ wr.heap.size 1 _ _ _ hbk).trans rfl
              have HB1 := Lib.hid hb1
              clear hbk hb1
              change Code.wp _ _ _ _ (wr.alloc (.cells #[.int .u8 (lo.toNat : Int), .int .u8 (hi'.toNat : Int)] 94))
              obtain ⟨g, hg⟩ : ∃ g, Hid (g = wr.heap.size) := ⟨_, rfl⟩
              rw [← hg.out] at hk0 hk1 ⊢
              generalize wr.alloc (.cells #[.int .u8 (lo.toNat : Int), .int .u8 (hi'.toNat : Int)] 94) = w5 at *
              have HWB : Hid (∀ W, Calls Tryd.prog 48 #[.int .u8 (s[i].toNat : Int), .int .u8 (lo.toNat : Int), .int .u8 (hi'.toNat : Int)] W fun e w' => e = .returned (.bool (within s[i] lo hi')) ∧ w' = W) := fun W => within_byte _ _ _ W
              cases hm : within s[i] lo hi'
              · rw [hm] at HWB
                have HM2 : Hid (matchAt c j = false) := by rw [Hid, HMJ.out, HCC.out]; exact hm
                clear hm hix
                go_quiet ((go_at_call 48; exact Calls.quiet_of_same (HWB.out _)))
                go_wp2_with fail
                refine ⟨⟨j + 1, by first | rfl | simp, by omega, fun m hm => ?_, below_drewN' HB1.out _⟩, by simp [intOf]; omega⟩
                rcases (by omega : m < j ∨ m = j) with h | rfl
                · exact HM.out m h
                · exact HM2.out
              · rw [hm] at HWB
                have HM2 : Hid (matchAt c j = true) := by rw [Hid, HMJ.out, HCC.out]; exact hm
                clear hm hix
                go_quiet ((go_at_call 48; exact Calls.quiet_of_same (HWB.out _)))
                go_wp2_with fail
                refine ⟨⟨i + 1, by first | rfl | simp, by omega, ?_, below_drewN' HB1.out _⟩, by simp [intOf]; omega⟩
                have hns : nsign s[i] = true := by
                  rw [← HCC.out, nsign_any, List.any_eq_true]
                  exact ⟨j, List.mem_range.2 hj7, HM2.out⟩
                have hil2 : i < s.data.toList.length := by rw [HLN.out]; exact hlt
                rw [Hid, List.take_succ_eq_append_getElem hil2, List.all_append, HA.out, Bool.true_and]
                simp only [List.all_cons, List.all_nil, Bool.and_true]
                exact hns
            · obtain rfl : j = 7 := by omega
              have hfal : Hid (isName s.data.toList = false) := by
                rw [hn.out, Hid, List.all_eq_false]
                refine ⟨s[i], ?_, ?_⟩
                · exact List.getElem_mem (by rw [HLN.out]; exact hlt)
                · rw [← HCC.out, nsign_any, List.any_eq_true]
                  rintro ⟨m, hm, hh⟩
                  rw [HM.out m (List.mem_range.1 hm)] at hh
                  cases hh
              go_wp2_with fail
              simp only [Exit.noGoto_ret]
              go_ret
              exact ⟨by rw [hfal.out]; rfl, HWI.out⟩
        · obtain rfl : i = s.size := by omega
          have hall : Hid (s.data.toList.all nsign = true) := by
            have h := HA.out
            rw [List.take_of_length_le (by rw [HLN.out]; exact Nat.le_refl _)] at h
            exact h
          go_wp2_with fail
          simp only [Exit.noGoto_ret]
          go_ret
          exact ⟨by rw [hn.out, hall.out]; rfl, HW.out⟩
  · have hn : isName s.data.toList = false := by
      unfold isName
      rw [hlen]
      by_cases h1 : 1 ≤ s.size
      · have : decide (s.size ≤ 27) = false := decide_eq_false (by omega)
        rw [this]; simp
      · have : decide (1 ≤ s.size) = false := decide_eq_false (by omega)
        rw [this]; simp
    rw [hn]
    have hb : false = (decide (1 ≤ s.size) && decide (s.size ≤ 27)) := by
      symm
      rw [Bool.and_eq_false_iff]
      by_cases h1 : 1 ≤ s.size
      · exact Or.inr (decide_eq_false (by omega))
      · exact Or.inl (decide_eq_false (by omega))
    have HBB := Lib.hid hb
    clear hb hsz hn hlen
    go_enter Tryd.func32, Tryd.ntmps32
    go_wp2_with fail
    go_step3
    go_wp2_with (go_at_call 45; refine (within_len s.size false HBB.out _).mono ?_; rintro e w1 ⟨rfl, rfl⟩)
    simp only [Exit.noGoto_ret]
    go_ret
    exact ⟨rfl, Below.refl _ _⟩
end Go.Proofs.YtmaknbcfnigbmaaDoor
