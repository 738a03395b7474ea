/- AtermBack, walked. -/
import Derived.Test.YtbldognffppeiaaDoorAtBackL
import Derived.Test.YtbldognffppeiaaDoorAtPuts
namespace Go.Proofs.YtbldognffppeiaaDoor
open Go.RowKit Quo
set_option linter.unusedSimpArgs false
set_option linter.unusedVariables false
theorem empty_fits (a : DrvA) : Fits emptyD a := ⟨Nat.zero_le _, Nat.zero_le _, Nat.zero_le _, Nat.zero_le _, Nat.zero_le _, fun j x hj => by simp [emptyD] at hj⟩
set_option maxHeartbeats 8000000 in
set_option maxRecDepth 1000000 in
theorem back_any (d : Drv) (a : DrvA) (hfit : Fits d a) (hZ : Sized d) (s : ByteArray) (w : World) (hT : Tabs w) (hE : ErrT w) (h : DrvAt w d a) : Calls Tryd.prog 7 #[.agg (drvCells d a), .string s] w fun e w' => e = .returned (.bool true) ∧ Below w.heap.size w w' := by
  obtain ⟨gd, hgd⟩ : ∃ gd, Hid (w.heap.size = gd) := ⟨_, rfl⟩
  obtain ⟨cs, hcs⟩ : ∃ cs, Hid (drvCells d a = cs) := ⟨_, rfl⟩
  have hsz : Hid (cs.size = 7) := by rw [← hcs.out]; rfl
  have HB0 : Hid (Below w.heap.size w (w.alloc (.cells cs 29))) := (Below.refl _ w).alloc (Nat.le_refl _) _
  have HK0 : Hid (Blk (w.alloc (.cells cs 29)) gd 29 cs) := by rw [← hgd.out]; exact Blk.new w 29 _
  have HTw : Hid (∀ W, Below w.heap.size w W → Tabs W) := fun W hb => hT.below hb
  have HEw : Hid (∀ W, Below w.heap.size w W → ErrT W) := fun W hb => hE.below hb
  have HDw : Hid (∀ W, Below w.heap.size w W → DrvAt W d a) := fun W hb => h.below hb
  have HFT := Lib.hid hfit
  have HZ := Lib.hid hZ
  rw [hcs.out]
  clear hT hE h hfit hZ
  go_enter Tryd.func7, Tryd.ntmps7
  go_upto_region 1 with (fail)
  rw [hgd.out]
  generalize w.alloc (.cells cs 29) = W0 at *
  obtain ⟨b1, hb1⟩ : ∃ b1, Hid (W0.heap.size = b1) := ⟨_, rfl⟩
  have HB1 : Hid (Below W0.heap.size W0 (W0.alloc (.cells #[.string ⟨#[111, 117, 116]⟩, .string ⟨#[47, 115, 116, 111, 114, 101, 47, 120]⟩, .string ⟨#[]⟩] 49))) := (Below.refl _ W0).alloc (Nat.le_refl _) _
  have HO1 : Hid (Blk (W0.alloc (.cells #[.string ⟨#[111, 117, 116]⟩, .string ⟨#[47, 115, 116, 111, 114, 101, 47, 120]⟩, .string ⟨#[]⟩] 49)) b1 49 #[.string ⟨#[111, 117, 116]⟩, .string ⟨#[47, 115, 116, 111, 114, 101, 47, 120]⟩, .string ⟨#[]⟩]) := by rw [← hb1.out]; exact Blk.new W0 49 _
  have HBw1 := Lib.hid (below_step' HB0.out HB1.out)
  have HD1 : Hid (DrvAt (W0.alloc (.cells #[.string ⟨#[111, 117, 116]⟩, .string ⟨#[47, 115, 116, 111, 114, 101, 47, 120]⟩, .string ⟨#[]⟩] 49)) oneD ⟨some ⟨b1, 0, none⟩, none, none, none, none, 1, 0, 0, 0, 0⟩) := by
    refine ⟨fun j x hj => ?_, fun j x hj => by simp [oneD] at hj, fun j x hj => by simp [oneD] at hj, fun j x hj => by simp [oneD] at hj, fun j x hj => by simp [oneD] at hj, Nat.le_refl _, Nat.le_refl _, Nat.le_refl _, Nat.le_refl _, Nat.le_refl _, (show (1 : Nat) ≤ maxLen by decide), Nat.zero_le _, Nat.zero_le _, Nat.zero_le _, Nat.zero_le _, fun e => (by cases e), fun _ => ⟨rfl, rfl⟩, fun _ => ⟨rfl, rfl⟩, fun _ => ⟨rfl, rfl⟩⟩
    have hj0 : j = 0 := by
      have := (List.getElem?_eq_some_iff.1 hj).1
      simp [oneD] at this
      exact this
    subst hj0
    have hx : x = (⟨#[111, 117, 116]⟩, ⟨#[47, 115, 116, 111, 114, 101, 47, 120]⟩, ⟨#[]⟩) := by
      have : some (⟨#[111, 117, 116]⟩, ⟨#[47, 115, 116, 111, 114, 101, 47, 120]⟩, ⟨#[]⟩) = some x := hj
      injection this with this
      exact this.symm
    subst hx
    exact ⟨b1, 0, rfl, HO1.out.cell 0, HO1.out.cell 1, HO1.out.cell 2⟩
  have HP1 := Lib.hid (put_all oneD _ one_sized _ (HTw.out _ HBw1.out) HD1.out)
  rw [one_put.1, one_put.2] at HP1
  have hD1c : Hid (drvCells oneD ⟨some ⟨b1, 0, none⟩, none, none, none, none, 1, 0, 0, 0, 0⟩ = #[.slice (some ⟨b1, 0, none⟩) 1 1, .slice none 0 0, .slice none 0 0, .string ⟨#[115]⟩, .string ⟨#[98]⟩, .slice none 0 0, .slice none 0 0]) := rfl
  rw [hD1c.out] at HP1
  rw [hb1.out] at HB1
  go_upto_region 4 with (first
    | (go_at_call 10; rw [hb1.out]; refine HP1.out.mono ?_; rintro e w1 ⟨rfl, hb⟩; have HB2 := Lib.hid (below_step' HBw1.out hb); have HK1 := Lib.hid ((HK0.out.below HB1.out (by rw [← hb1.out]; exact HK0.out.lt)).below hb (Nat.lt_of_lt_of_le HK0.out.lt (by rw [World.size_alloc]; omega))); clear hb)
    | fail)
  have HKK : Hid (w1.heap[gd]? = some (.cells cs 29 (0, 0))) := HK1.out
  have HP2 := Lib.hid (put_all d a HZ.out w1 (HTw.out _ HB2.out) (HDw.out _ HB2.out))
  rw [hcs.out] at HP2
  clear HP1 HD1 HO1 HB1 hD1c
  by_cases hpe : putE d = 0
  · obtain ⟨hbe, hbv⟩ := back_put hpe
    rw [hpe] at HP2
    obtain ⟨t, ht⟩ : ∃ t, Hid (putT d = t) := ⟨_, rfl⟩
    rw [ht.out] at HP2 hbe hbv
    have HBE := Lib.hid hbe
    have HBV := Lib.hid hbv
    clear hpe hbe hbv
    go_upto_region 6 with (first
      | refine wpList_load_row rfl 29 (.tmp 2) rfl gd rfl 29 cs (0, 0) _ HKK.out Tryd.underlying29 rfl (by rw [hsz.out]; kernel_rfl) ?_
      | (go_at_call 10; refine HP2.out.mono ?_; rintro e w2 ⟨rfl, hb⟩; have HB3a := Lib.hid (below_step' HB2.out hb); have HK2 : Hid (Blk w2 gd 29 cs) := HK1.out.below hb HK1.out.lt; clear hb)
      | fail)
    have HPr := Lib.hid (parse_any t w2 (HTw.out _ HB3a.out) (HEw.out _ HB3a.out))
    rw [HBE.out, HBV.out] at HPr
    go_upto_region 7 with (first
      | (go_at_call 16; refine HPr.out.mono ?_; rintro e w3 ⟨a2, rfl, hd, hb⟩; have HDp := Lib.hid hd; have HB4 := Lib.hid (below_step' HB3a.out hb); have HK3 : Hid (Blk w3 gd 29 cs) := HK2.out.below hb HK2.out.lt; clear hd hb)
      | refine wpList_store_row rfl 29 (.tmp 9) (.tmp 35) rfl w3.heap.size (drvCells d a2) rfl rfl 29 _ (heap_alloc_new w3 _) (by kernel_rfl) rfl (by simp [drvCells, Value.oneCell']) ?_
      | fail)
    obtain ⟨b9, hb9⟩ : ∃ b, Hid (w3.heap.size = b) := ⟨_, rfl⟩
    rw [hb9.out]
    have HBW9 : Hid (Below b9 w3 ((w3.alloc (.cells #[.slice none 0 0, .slice none 0 0, .slice none 0 0, .string ⟨#[]⟩, .string ⟨#[]⟩, .slice none 0 0, .slice none 0 0] 29)).setRow b9 (drvCells d a2))) := below_setRow ((Below.refl b9 w3).alloc (by rw [← hb9.out]; exact Nat.le_refl _) _) (Nat.le_refl _) _
    have HK9 : Hid (Blk ((w3.alloc (.cells #[.slice none 0 0, .slice none 0 0, .slice none 0 0, .string ⟨#[]⟩, .string ⟨#[]⟩, .slice none 0 0, .slice none 0 0] 29)).setRow b9 (drvCells d a2)) b9 29 (drvCells d a2)) := by
      have h1 := Blk.new w3 29 #[.slice none 0 0, .slice none 0 0, .slice none 0 0, .string ⟨#[]⟩, .string ⟨#[]⟩, .slice none 0 0, .slice none 0 0]
      rw [hb9.out] at h1
      exact h1.row _
    generalize (w3.alloc (.cells #[.slice none 0 0, .slice none 0 0, .slice none 0 0, .string ⟨#[]⟩, .string ⟨#[]⟩, .slice none 0 0, .slice none 0 0] 29)).setRow b9 (drvCells d a2) = W9 at *
    have HBX9 : Hid (Below w3.heap.size w3 W9) := by rw [hb9.out]; exact HBW9.out
    have HBw9 : Hid (Below w.heap.size w W9) := HB4.out.trans (HBX9.out.mono HB4.out.size)
    have HDp9 := Lib.hid (HDp.out.below HBX9.out)
    have hK9 : Hid (W9.heap[b9]? = some (.cells (drvCells d a2) 29 (0, 0))) := HK9.out
    have hKd9 : Hid (W9.heap[gd]? = some (.cells cs 29 (0, 0))) := HK3.out.below HBX9.out HK3.out.lt
    have hsz2 : Hid ((drvCells d a2).size = 7) := rfl
    have HSm := Lib.hid (same_any d a2 a ⟨HFT.out.b0, HFT.out.b1, HFT.out.b2, HFT.out.b5, HFT.out.b6, HFT.out.bi⟩ W9 HDp9.out (HDw.out _ HBw9.out))
    have hQ9 : Hid (Blk W9 b9 29 (drvCells d a2)) := hK9.out
    have hQd : Hid (Blk W9 gd 29 (drvCells d a)) := by rw [hcs.out]; exact hKd9.out
    obtain ⟨n0, e0⟩ : ∃ n, Hid (d.outs.length = n) := ⟨_, rfl⟩
    obtain ⟨n1, e1⟩ : ∃ n, Hid (d.ins.length = n) := ⟨_, rfl⟩
    obtain ⟨n2, e2⟩ : ∃ n, Hid (d.srcs.length = n) := ⟨_, rfl⟩
    obtain ⟨n5, e5⟩ : ∃ n, Hid (d.args.length = n) := ⟨_, rfl⟩
    obtain ⟨n6, e6⟩ : ∃ n, Hid (d.env.length = n) := ⟨_, rfl⟩
    unfold drvCells at hQ9 hQd HSm
    rw [e0.out, e1.out, e2.out, e5.out, e6.out] at hQ9 hQd HSm
    have p0 : W9.cell? ⟨b9, 0, none⟩ = some (.slice a2.A0 n0 a2.c0) := hQ9.out.cell 0
    have p1 : W9.cell? ⟨b9, 1, none⟩ = some (.slice a2.A1 n1 a2.c1) := hQ9.out.cell 1
    have p2 : W9.cell? ⟨b9, 2, none⟩ = some (.slice a2.A2 n2 a2.c2) := hQ9.out.cell 2
    have p3 : W9.cell? ⟨b9, 3, none⟩ = some (.string d.sys) := hQ9.out.cell 3
    have p4 : W9.cell? ⟨b9, 4, none⟩ = some (.string d.bld) := hQ9.out.cell 4
    have p5 : W9.cell? ⟨b9, 5, none⟩ = some (.slice a2.A5 n5 a2.c5) := hQ9.out.cell 5
    have p6 : W9.cell? ⟨b9, 6, none⟩ = some (.slice a2.A6 n6 a2.c6) := hQ9.out.cell 6
    have r0 : W9.cell? ⟨gd, 0, none⟩ = some (.slice a.A0 n0 a.c0) := hQd.out.cell 0
    have r1 : W9.cell? ⟨gd, 1, none⟩ = some (.slice a.A1 n1 a.c1) := hQd.out.cell 1
    have r2 : W9.cell? ⟨gd, 2, none⟩ = some (.slice a.A2 n2 a.c2) := hQd.out.cell 2
    have r3 : W9.cell? ⟨gd, 3, none⟩ = some (.string d.sys) := hQd.out.cell 3
    have r4 : W9.cell? ⟨gd, 4, none⟩ = some (.string d.bld) := hQd.out.cell 4
    have r5 : W9.cell? ⟨gd, 5, none⟩ = some (.slice a.A5 n5 a.c5) := hQd.out.cell 5
    have r6 : W9.cell? ⟨gd, 6, none⟩ = some (.slice a.A6 n6 a.c6) := hQd.out.cell 6
    go_upto_region 9 with (first
      | (go_at_call 14; refine HSm.out.mono ?_; rintro e w4 ⟨rfl, hb⟩; have HB5 := Lib.hid (below_step' HBw9.out hb); clear hb)
      | fail)
    clear p0 p1 p2 p3 p4 p5 p6 r0 r1 r2 r3 r4 r5 r6 hQ9 hQd
    clear HSm HPr HP2
    by_cases hes : parseE s = 0
    · obtain ⟨hb0e, hb0t, hb0z⟩ := back_parse hes
      have HS := Lib.hid (parse_any s w4 (HTw.out _ HB5.out) (HEw.out _ HB5.out))
      rw [hes] at HS
      go_upto_region 10 with (first
        | (go_at_call 16; refine HS.out.mono ?_; rintro e u1 ⟨a3, rfl, hd, hb⟩; have HD3 := Lib.hid hd; have HB3 := Lib.hid (below_step' HB5.out hb); clear hd hb)
        | refine wpList_store_row rfl 29 (.tmp 11) (.tmp 48) rfl u1.heap.size (drvCells (parseV s) a3) rfl rfl 29 _ (heap_alloc_new u1 _) (by kernel_rfl) rfl (by simp [drvCells, Value.oneCell']) ?_
        | fail)
      obtain ⟨b11, hb11⟩ : ∃ b, Hid (u1.heap.size = b) := ⟨_, rfl⟩
      rw [hb11.out]
      have HBW11 : Hid (Below b11 u1 ((u1.alloc (.cells #[.slice none 0 0, .slice none 0 0, .slice none 0 0, .string ⟨#[]⟩, .string ⟨#[]⟩, .slice none 0 0, .slice none 0 0] 29)).setRow b11 (drvCells (parseV s) a3))) := below_setRow ((Below.refl b11 u1).alloc (by rw [← hb11.out]; exact Nat.le_refl _) _) (Nat.le_refl _) _
      have HK11 : Hid (Blk ((u1.alloc (.cells #[.slice none 0 0, .slice none 0 0, .slice none 0 0, .string ⟨#[]⟩, .string ⟨#[]⟩, .slice none 0 0, .slice none 0 0] 29)).setRow b11 (drvCells (parseV s) a3)) b11 29 (drvCells (parseV s) a3)) := by
        have h1 := Blk.new u1 29 #[.slice none 0 0, .slice none 0 0, .slice none 0 0, .string ⟨#[]⟩, .string ⟨#[]⟩, .slice none 0 0, .slice none 0 0]
        rw [hb11.out] at h1
        exact h1.row _
      generalize (u1.alloc (.cells #[.slice none 0 0, .slice none 0 0, .slice none 0 0, .string ⟨#[]⟩, .string ⟨#[]⟩, .slice none 0 0, .slice none 0 0] 29)).setRow b11 (drvCells (parseV s) a3) = W11 at *
      have HBX11 : Hid (Below u1.heap.size u1 W11) := by rw [hb11.out]; exact HBW11.out
      have HBw11 : Hid (Below w.heap.size w W11) := HB3.out.trans (HBX11.out.mono HB3.out.size)
      have HD4 := Lib.hid (HD3.out.below HBX11.out)
      have HPs := Lib.hid (put_all (parseV s) a3 hb0z W11 (HTw.out _ HBw11.out) HD4.out)
      rw [hb0e, hb0t] at HPs
      have hK11 : Hid (W11.heap[b11]? = some (.cells (drvCells (parseV s) a3) 29 (0, 0))) := HK11.out
      have hsz3 : Hid ((drvCells (parseV s) a3).size = 7) := rfl
      clear hes hb0e hb0t hb0z
      go_wp2_with (first
        | refine wpList_load_row rfl 29 (.tmp 11) rfl b11 rfl 29 (drvCells (parseV s) a3) (0, 0) _ hK11.out Tryd.underlying29 rfl (by rw [hsz3.out]; kernel_rfl) ?_
        | (go_at_call 10; refine HPs.out.mono ?_; rintro e u2 ⟨rfl, hb⟩; have HBf := Lib.hid (below_step' HBw11.out hb); clear hb)
        | fail)
      go_ret
      exact ⟨rfl, HBf.out⟩
    · have hvv := back_empty hes
      have HS := Lib.hid (parse_any s w4 (HTw.out _ HB5.out) (HEw.out _ HB5.out))
      rw [hvv] at HS
      obtain ⟨er, her⟩ : ∃ er, Hid (parseE s = er) := ⟨_, rfl⟩
      rw [her.out] at HS hes
      have de : (er == 0) = false := by simpa using hes
      clear hvv hes
      go_upto_region 10 with (first
        | (go_at_call 16; refine HS.out.mono ?_; rintro e u1 ⟨a3, rfl, hd, hb⟩; have HD3 := Lib.hid hd; have HB3 := Lib.hid (below_step' HB5.out hb); clear hd hb)
        | refine wpList_store_row rfl 29 (.tmp 11) (.tmp 48) rfl u1.heap.size (drvCells emptyD a3) rfl rfl 29 _ (heap_alloc_new u1 _) (by kernel_rfl) rfl (by simp [drvCells, Value.oneCell']) ?_
        | fail)
      obtain ⟨b11, hb11⟩ : ∃ b, Hid (u1.heap.size = b) := ⟨_, rfl⟩
      rw [hb11.out]
      have HBW11 : Hid (Below b11 u1 ((u1.alloc (.cells #[.slice none 0 0, .slice none 0 0, .slice none 0 0, .string ⟨#[]⟩, .string ⟨#[]⟩, .slice none 0 0, .slice none 0 0] 29)).setRow b11 (drvCells emptyD a3))) := below_setRow ((Below.refl b11 u1).alloc (by rw [← hb11.out]; exact Nat.le_refl _) _) (Nat.le_refl _) _
      have HK11 : Hid (Blk ((u1.alloc (.cells #[.slice none 0 0, .slice none 0 0, .slice none 0 0, .string ⟨#[]⟩, .string ⟨#[]⟩, .slice none 0 0, .slice none 0 0] 29)).setRow b11 (drvCells emptyD a3)) b11 29 (drvCells emptyD a3)) := by
        have h1 := Blk.new u1 29 #[.slice none 0 0, .slice none 0 0, .slice none 0 0, .string ⟨#[]⟩, .string ⟨#[]⟩, .slice none 0 0, .slice none 0 0]
        rw [hb11.out] at h1
        exact h1.row _
      generalize (u1.alloc (.cells #[.slice none 0 0, .slice none 0 0, .slice none 0 0, .string ⟨#[]⟩, .string ⟨#[]⟩, .slice none 0 0, .slice none 0 0] 29)).setRow b11 (drvCells emptyD a3) = W11 at *
      have HBX11 : Hid (Below u1.heap.size u1 W11) := by rw [hb11.out]; exact HBW11.out
      have HBw11 : Hid (Below w.heap.size w W11) := HB3.out.trans (HBX11.out.mono HB3.out.size)
      have HD4 := Lib.hid (HD3.out.below HBX11.out)
      have HSm := Lib.hid (same_any emptyD a3 nilA (empty_fits a3) W11 HD4.out (empty_at W11))
      have hzc : Hid (drvCells emptyD nilA = #[.slice none 0 0, .slice none 0 0, .slice none 0 0, .string ⟨#[]⟩, .string ⟨#[]⟩, .slice none 0 0, .slice none 0 0]) := rfl
      rw [hzc.out] at HSm
      have hK11 : Hid (W11.heap[b11]? = some (.cells (drvCells emptyD a3) 29 (0, 0))) := HK11.out
      have hsz3 : Hid ((drvCells emptyD a3).size = 7) := rfl
      go_wp2_with (first
        | refine wpList_load_row rfl 29 (.tmp 11) rfl b11 rfl 29 (drvCells emptyD a3) (0, 0) _ hK11.out Tryd.underlying29 rfl (by rw [hsz3.out]; kernel_rfl) ?_
        | (go_at_call 14; refine HSm.out.mono ?_; rintro e u2 ⟨rfl, hb⟩; have HBf := Lib.hid (below_step' HBw11.out hb); clear hb)
        | fail)
      go_ret
      exact ⟨rfl, HBf.out⟩
  · obtain ⟨pe, hpe2⟩ : ∃ pe, Hid (putE d = pe) := ⟨_, rfl⟩
    obtain ⟨pt, hpt2⟩ : ∃ pt, Hid (putT d = pt) := ⟨_, rfl⟩
    rw [hpe2.out] at hpe
    rw [hpe2.out, hpt2.out] at HP2
    have dpe : (pe == 0) = false := by simpa using hpe
    clear hpe
    go_upto_region 9 with (first
      | refine wpList_load_row rfl 29 (.tmp 2) rfl gd rfl 29 cs (0, 0) _ HKK.out Tryd.underlying29 rfl (by rw [hsz.out]; kernel_rfl) ?_
      | (go_at_call 10; refine HP2.out.mono ?_; rintro e w2 ⟨rfl, hb⟩; have HB5 := Lib.hid (below_step' HB2.out hb); clear hb)
      | fail)
    clear HP2
    by_cases hes : parseE s = 0
    · obtain ⟨hb0e, hb0t, hb0z⟩ := back_parse hes
      have HS := Lib.hid (parse_any s w2 (HTw.out _ HB5.out) (HEw.out _ HB5.out))
      rw [hes] at HS
      go_upto_region 10 with (first
        | (go_at_call 16; refine HS.out.mono ?_; rintro e u1 ⟨a3, rfl, hd, hb⟩; have HD3 := Lib.hid hd; have HB3 := Lib.hid (below_step' HB5.out hb); clear hd hb)
        | refine wpList_store_row rfl 29 (.tmp 11) (.tmp 48) rfl u1.heap.size (drvCells (parseV s) a3) rfl rfl 29 _ (heap_alloc_new u1 _) (by kernel_rfl) rfl (by simp [drvCells, Value.oneCell']) ?_
        | fail)
      obtain ⟨b11, hb11⟩ : ∃ b, Hid (u1.heap.size = b) := ⟨_, rfl⟩
      rw [hb11.out]
      have HBW11 : Hid (Below b11 u1 ((u1.alloc (.cells #[.slice none 0 0, .slice none 0 0, .slice none 0 0, .string ⟨#[]⟩, .string ⟨#[]⟩, .slice none 0 0, .slice none 0 0] 29)).setRow b11 (drvCells (parseV s) a3))) := below_setRow ((Below.refl b11 u1).alloc (by rw [← hb11.out]; exact Nat.le_refl _) _) (Nat.le_refl _) _
      have HK11 : Hid (Blk ((u1.alloc (.cells #[.slice none 0 0, .slice none 0 0, .slice none 0 0, .string ⟨#[]⟩, .string ⟨#[]⟩, .slice none 0 0, .slice none 0 0] 29)).setRow b11 (drvCells (parseV s) a3)) b11 29 (drvCells (parseV s) a3)) := by
        have h1 := Blk.new u1 29 #[.slice none 0 0, .slice none 0 0, .slice none 0 0, .string ⟨#[]⟩, .string ⟨#[]⟩, .slice none 0 0, .slice none 0 0]
        rw [hb11.out] at h1
        exact h1.row _
      generalize (u1.alloc (.cells #[.slice none 0 0, .slice none 0 0, .slice none 0 0, .string ⟨#[]⟩, .string ⟨#[]⟩, .slice none 0 0, .slice none 0 0] 29)).setRow b11 (drvCells (parseV s) a3) = W11 at *
      have HBX11 : Hid (Below u1.heap.size u1 W11) := by rw [hb11.out]; exact HBW11.out
      have HBw11 : Hid (Below w.heap.size w W11) := HB3.out.trans (HBX11.out.mono HB3.out.size)
      have HD4 := Lib.hid (HD3.out.below HBX11.out)
      have HPs := Lib.hid (put_all (parseV s) a3 hb0z W11 (HTw.out _ HBw11.out) HD4.out)
      rw [hb0e, hb0t] at HPs
      have hK11 : Hid (W11.heap[b11]? = some (.cells (drvCells (parseV s) a3) 29 (0, 0))) := HK11.out
      have hsz3 : Hid ((drvCells (parseV s) a3).size = 7) := rfl
      clear hes hb0e hb0t hb0z
      go_wp2_with (first
        | refine wpList_load_row rfl 29 (.tmp 11) rfl b11 rfl 29 (drvCells (parseV s) a3) (0, 0) _ hK11.out Tryd.underlying29 rfl (by rw [hsz3.out]; kernel_rfl) ?_
        | (go_at_call 10; refine HPs.out.mono ?_; rintro e u2 ⟨rfl, hb⟩; have HBf := Lib.hid (below_step' HBw11.out hb); clear hb)
        | fail)
      go_ret
      exact ⟨rfl, HBf.out⟩
    · have hvv := back_empty hes
      have HS := Lib.hid (parse_any s w2 (HTw.out _ HB5.out) (HEw.out _ HB5.out))
      rw [hvv] at HS
      obtain ⟨er, her⟩ : ∃ er, Hid (parseE s = er) := ⟨_, rfl⟩
      rw [her.out] at HS hes
      have de : (er == 0) = false := by simpa using hes
      clear hvv hes
      go_upto_region 10 with (first
        | (go_at_call 16; refine HS.out.mono ?_; rintro e u1 ⟨a3, rfl, hd, hb⟩; have HD3 := Lib.hid hd; have HB3 := Lib.hid (below_step' HB5.out hb); clear hd hb)
        | refine wpList_store_row rfl 29 (.tmp 11) (.tmp 48) rfl u1.heap.size (drvCells emptyD a3) rfl rfl 29 _ (heap_alloc_new u1 _) (by kernel_rfl) rfl (by simp [drvCells, Value.oneCell']) ?_
        | fail)
      obtain ⟨b11, hb11⟩ : ∃ b, Hid (u1.heap.size = b) := ⟨_, rfl⟩
      rw [hb11.out]
      have HBW11 : Hid (Below b11 u1 ((u1.alloc (.cells #[.slice none 0 0, .slice none 0 0, .slice none 0 0, .string ⟨#[]⟩, .string ⟨#[]⟩, .slice none 0 0, .slice none 0 0] 29)).setRow b11 (drvCells emptyD a3))) := below_setRow ((Below.refl b11 u1).alloc (by rw [← hb11.out]; exact Nat.le_refl _) _) (Nat.le_refl _) _
      have HK11 : Hid (Blk ((u1.alloc (.cells #[.slice none 0 0, .slice none 0 0, .slice none 0 0, .string ⟨#[]⟩, .string ⟨#[]⟩, .slice none 0 0, .slice none 0 0] 29)).setRow b11 (drvCells emptyD a3)) b11 29 (drvCells emptyD a3)) := by
        have h1 := Blk.new u1 29 #[.slice none 0 0, .slice none 0 0, .slice none 0 0, .string ⟨#[]⟩, .string ⟨#[]⟩, .slice none 0 0, .slice none 0 0]
        rw [hb11.out] at h1
        exact h1.row _
      generalize (u1.alloc (.cells #[.slice none 0 0, .slice none 0 0, .slice none 0 0, .string ⟨#[]⟩, .string ⟨#[]⟩, .slice none 0 0, .slice none 0 0] 29)).setRow b11 (drvCells emptyD a3) = W11 at *
      have HBX11 : Hid (Below u1.heap.size u1 W11) := by rw [hb11.out]; exact HBW11.out
      have HBw11 : Hid (Below w.heap.size w W11) := HB3.out.trans (HBX11.out.mono HB3.out.size)
      have HD4 := Lib.hid (HD3.out.below HBX11.out)
      have HSm := Lib.hid (same_any emptyD a3 nilA (empty_fits a3) W11 HD4.out (empty_at W11))
      have hzc : Hid (drvCells emptyD nilA = #[.slice none 0 0, .slice none 0 0, .slice none 0 0, .string ⟨#[]⟩, .string ⟨#[]⟩, .slice none 0 0, .slice none 0 0]) := rfl
      rw [hzc.out] at HSm
      have hK11 : Hid (W11.heap[b11]? = some (.cells (drvCells emptyD a3) 29 (0, 0))) := HK11.out
      have hsz3 : Hid ((drvCells emptyD a3).size = 7) := rfl
      go_wp2_with (first
        | refine wpList_load_row rfl 29 (.tmp 11) rfl b11 rfl 29 (drvCells emptyD a3) (0, 0) _ hK11.out Tryd.underlying29 rfl (by rw [hsz3.out]; kernel_rfl) ?_
        | (go_at_call 14; refine HSm.out.mono ?_; rintro e u2 ⟨rfl, hb⟩; have HBf := Lib.hid (below_step' HBw11.out hb); clear hb)
        | fail)
      go_ret
      exact ⟨rfl, HBf.out⟩
end Go.Proofs.YtbldognffppeiaaDoor
