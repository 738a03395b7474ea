/- stillroomref08.Put, walked: what both Puts answer. -/
import Derived.Test.YtbldognffppeiaaDoorAtRefText
import Derived.Test.YtbldognffppeiaaDoorAtRefRight
namespace Go.Proofs.YtbldognffppeiaaDoor
open Go.RowKit
set_option linter.unusedSimpArgs false
set_option linter.unusedVariables false
/-- What Put answers: the text, the error. -/
noncomputable def putE (d : Drv) : Int := if rightE d = 0 then (if 1048576 < (textD d).length then 3 else 0) else rightE d
noncomputable def putT (d : Drv) : ByteArray := if putE d = 0 then tx (textD d) else ⟨#[]⟩
theorem put_ret {a b : ByteArray} {x y : Int} (h : a = b) (h2 : x = y) : Ending.returned (.tuple #[.string a, .int .i64 x]) = .returned (.tuple #[.string b, .int .i64 y]) := by rw [h, h2]
set_option maxHeartbeats 4000000 in
set_option maxRecDepth 100000 in
theorem refPut_any (d : Drv) (a : DrvA) (hZ : Sized d) (w : World) (h : DrvAt w d a) : Calls Tryd.prog 11 #[.agg (drvCells d a)] w fun e w' => e = .returned (.tuple #[.string (putT d), .int .i64 (putE d)]) ∧ Below w.heap.size w w' := by
  have hb1 := Lib.hid ((Below.refl w.heap.size w).alloc (Nat.le_refl _) (.cells (drvCells d a) 29))
  have HC := Lib.hid (refRight_any d a _ (h.below hb1.out))
  have HT : Hid (∀ W, Below w.heap.size w W → rightE d = 0 → Calls Tryd.prog 31 #[.agg (drvCells d a)] W fun e w' => e = .returned (.string (tx (textD d))) ∧ Below W.heap.size W w') := fun W hb hr => refText_any d a (short_of hr) hZ W (h.below hb)
  have hbk : Hid (Blk (w.alloc (.cells (drvCells d a) 29)) w.heap.size 29 (drvCells d a)) := Blk.new w 29 _
  have hsz : Hid ((drvCells d a).size = 7) := rfl
  obtain ⟨cs, hcs⟩ : ∃ cs, Hid (cs = drvCells d a) := ⟨_, rfl⟩
  rw [← hcs.out] at hb1 HC hbk hsz HT ⊢
  clear h hZ hcs
  by_cases hr : rightE d = 0
  · rw [hr] at HC
    have HT2 : Hid (∀ W, Below w.heap.size w W → Calls Tryd.prog 31 #[.agg cs] W fun e w' => e = .returned (.string (tx (textD d))) ∧ Below W.heap.size W w') := fun W hb => HT.out W hb hr
    clear HT
    have hE : Hid (putE d = if 1048576 < (textD d).length then 3 else 0) := if_pos hr
    obtain ⟨T, hT⟩ : ∃ T, Hid (tx (textD d) = T) := ⟨_, rfl⟩
    have hTs : Hid ((textD d).length = T.size) := by rw [Hid, ← hT.out, tx_size]
    rw [hT.out] at HT2
    clear hr
    by_cases hbig : 1048576 < T.size
    · have c1 : (1048576 : Int) < (T.size : Int) := by omega
      have hE3 : Hid (putE d = 3) := by rw [Hid, hE.out, hTs.out, if_pos hbig]
      have hT3 : Hid (putT d = ⟨#[]⟩) := by rw [Hid]; unfold putT; rw [hE3.out]; rfl
      go_enter Tryd.func11, Tryd.ntmps11
      go_upto_region 1 with (fail)
      go_upto_region 4 with (first
        | refine wpList_load_row rfl 29 (.tmp 1) rfl w.heap.size rfl 29 cs (0, 0) _ hbk.out Tryd.underlying29 rfl (by rw [hsz.out]; kernel_rfl) ?_
        | (go_at_call 13; refine HC.out.mono ?_; rintro e w1 ⟨rfl, hb⟩; have HB1 := Lib.hid (below_step' hb1.out hb); have hbk1 := Lib.hid (hbk.out.below hb hbk.out.lt); clear hb)
        | fail)
      go_wp2_with (first
        | refine wpList_load_row rfl 29 (.tmp 1) rfl w.heap.size rfl 29 cs (0, 0) _ hbk1.out Tryd.underlying29 rfl (by rw [hsz.out]; kernel_rfl) ?_
        | (go_at_call 31; refine (HT2.out _ HB1.out).mono ?_; rintro e w2 ⟨rfl, hb⟩; have HB2 := Lib.hid (below_step' HB1.out hb); clear hb)
        | fail)
      go_ret2
      exact ⟨put_ret hT3.out.symm hE3.out.symm, HB2.out⟩
    · have c1 : ¬ (1048576 : Int) < (T.size : Int) := by omega
      have hE3 : Hid (putE d = 0) := by rw [Hid, hE.out, hTs.out, if_neg hbig]
      have hT3 : Hid (putT d = T) := by rw [Hid]; unfold putT; rw [hE3.out, if_pos rfl, hT.out]
      go_enter Tryd.func11, Tryd.ntmps11
      go_upto_region 1 with (fail)
      go_upto_region 4 with (first
        | refine wpList_load_row rfl 29 (.tmp 1) rfl w.heap.size rfl 29 cs (0, 0) _ hbk.out Tryd.underlying29 rfl (by rw [hsz.out]; kernel_rfl) ?_
        | (go_at_call 13; refine HC.out.mono ?_; rintro e w1 ⟨rfl, hb⟩; have HB1 := Lib.hid (below_step' hb1.out hb); have hbk1 := Lib.hid (hbk.out.below hb hbk.out.lt); clear hb)
        | fail)
      go_wp2_with (first
        | refine wpList_load_row rfl 29 (.tmp 1) rfl w.heap.size rfl 29 cs (0, 0) _ hbk1.out Tryd.underlying29 rfl (by rw [hsz.out]; kernel_rfl) ?_
        | (go_at_call 31; refine (HT2.out _ HB1.out).mono ?_; rintro e w2 ⟨rfl, hb⟩; have HB2 := Lib.hid (below_step' HB1.out hb); clear hb)
        | fail)
      go_ret2
      exact ⟨put_ret hT3.out.symm hE3.out.symm, HB2.out⟩
  · clear HT
    obtain ⟨er, her⟩ : ∃ er, Hid (rightE d = er) := ⟨_, rfl⟩
    rw [her.out] at HC hr
    have e0 : (er == 0) = false := by simpa using hr
    have hE3 : Hid (putE d = er) := by rw [Hid]; unfold putE; rw [her.out, if_neg hr]
    have hT3 : Hid (putT d = ⟨#[]⟩) := by rw [Hid]; unfold putT; rw [hE3.out, if_neg hr]
    clear hr her
    go_enter Tryd.func11, Tryd.ntmps11
    go_upto_region 1 with (fail)
    go_upto_region 2 with (first
      | refine wpList_load_row rfl 29 (.tmp 1) rfl w.heap.size rfl 29 cs (0, 0) _ hbk.out Tryd.underlying29 rfl (by rw [hsz.out]; kernel_rfl) ?_
      | (go_at_call 13; refine HC.out.mono ?_; rintro e w1 ⟨rfl, hb⟩; have HB1 := Lib.hid (below_step' hb1.out hb); clear hb)
      | fail)
    go_wp2_with fail
    go_ret2
    exact ⟨put_ret hT3.out.symm hE3.out.symm, HB1.out⟩
end Go.Proofs.YtbldognffppeiaaDoor
