/- AtermParses, walked. -/
import Derived.Test.YtbldognffppeiaaDoorAtRfParse
import Derived.Test.YtbldognffppeiaaDoorAtSame
import Derived.Test.YtbldognffppeiaaDoorAtRefText
namespace Go.Proofs.YtbldognffppeiaaDoor
open Go.RowKit Quo
set_option linter.unusedSimpArgs false
set_option linter.unusedVariables false
theorem parse_fits (s : ByteArray) (a : DrvA) : Fits (parseV s) a := by
  unfold parseV
  by_cases he : parseE s = 0
  · rw [if_pos he]
    have h1 : ¬ 1048576 < s.size := fun h => by
      unfold parseE at he
      rw [if_pos h] at he
      cases he
    unfold parseE at he
    rw [if_neg h1] at he
    cases hp : parseD s.data.toList with
    | none => rw [hp] at he; cases he
    | some d =>
      rw [hp] at he
      have hS := short_of (d := d) he
      exact ⟨Nat.le_trans hS.c0 (by decide), Nat.le_trans hS.c1 (by decide), Nat.le_trans hS.c2 (by decide), Nat.le_trans hS.c5 (by decide), Nat.le_trans hS.c6 (by decide), fun j x hj => Nat.le_trans (hS.ci x (List.mem_of_getElem? hj)) (by decide)⟩
  · rw [if_neg he]
    exact ⟨Nat.zero_le _, Nat.zero_le _, Nat.zero_le _, Nat.zero_le _, Nat.zero_le _, fun j x hj => by simp [emptyD] at hj⟩
set_option maxHeartbeats 4000000 in
set_option maxRecDepth 1000000 in
theorem parses_any (s : ByteArray) (hs : s.size ≤ 1048576) (w : World) (hT : Tabs w) (hE : ErrT w) : Calls Tryd.prog 6 #[.string s] w fun e w' => e = .returned (.bool true) ∧ Below w.heap.size w w' := by
  have HP := Lib.hid (parse_any s w hT hE)
  have HT := Lib.hid hT
  clear hT hE
  obtain ⟨Zc, hZc⟩ : ∃ Zc : Array Value, Hid (Zc = #[.slice none 0 0, .slice none 0 0, .slice none 0 0, .string ⟨#[]⟩, .string ⟨#[]⟩, .slice none 0 0, .slice none 0 0]) := ⟨_, rfl⟩
  obtain ⟨er, her⟩ : ∃ er, Hid (parseE s = er) := ⟨_, rfl⟩
  rw [her.out] at HP
  go_enter Tryd.func6, Tryd.ntmps6
  go_upto_region 2 with (first
    | (go_at_call 16; refine HP.out.mono ?_; rintro e w1 ⟨a, rfl, hd, hb⟩; have HD1 := Lib.hid hd; have HB1 := Lib.hid hb; clear hd hb)
    | refine wpList_store_row rfl 29 (.tmp 3) (.tmp 10) rfl w1.heap.size (drvCells (parseV s) a) rfl rfl 29 _ (heap_alloc_new w1 _) (by kernel_rfl) rfl (by simp [drvCells, Value.oneCell']) ?_
    | fail)
  obtain ⟨g1, hg1⟩ : ∃ g1, Hid (w1.heap.size = g1) := ⟨_, rfl⟩
  rw [hg1.out]
  have HBW : Hid (Below g1 w1 ((w1.alloc (.cells #[.slice none 0 0, .slice none 0 0, .slice none 0 0, .string ⟨#[]⟩, .string ⟨#[]⟩, .slice none 0 0, .slice none 0 0] 29)).setRow g1 (drvCells (parseV s) a))) := below_setRow ((Below.refl g1 w1).alloc (by rw [← hg1.out]; exact Nat.le_refl _) _) (Nat.le_refl _) _
  have HK1 : Hid (Blk ((w1.alloc (.cells #[.slice none 0 0, .slice none 0 0, .slice none 0 0, .string ⟨#[]⟩, .string ⟨#[]⟩, .slice none 0 0, .slice none 0 0] 29)).setRow g1 (drvCells (parseV s) a)) g1 29 (drvCells (parseV s) a)) := by
    have h1 := Blk.new w1 29 #[.slice none 0 0, .slice none 0 0, .slice none 0 0, .string ⟨#[]⟩, .string ⟨#[]⟩, .slice none 0 0, .slice none 0 0]
    rw [hg1.out] at h1
    exact h1.row _
  generalize (w1.alloc (.cells #[.slice none 0 0, .slice none 0 0, .slice none 0 0, .string ⟨#[]⟩, .string ⟨#[]⟩, .slice none 0 0, .slice none 0 0] 29)).setRow g1 (drvCells (parseV s) a) = W2 at *
  have HD2 := Lib.hid (HD1.out.below (by rw [hg1.out]; exact HBW.out))
  have HB2 : Hid (Below w.heap.size w W2) := HB1.out.trans (HBW.out.mono (by rw [← hg1.out]; exact HB1.out.size))
  have HR := Lib.hid (rfParse_any s W2)
  rw [her.out] at HR
  clear HP HD1 HBW
  go_upto_region 3 with (first
    | (go_at_call 17; refine HR.out.mono ?_; rintro e w3 ⟨a', rfl, hd, hb⟩; have HD3 := Lib.hid hd; have HB3 := Lib.hid hb; clear hd hb)
    | refine wpList_store_row rfl 29 (.tmp 5) (.tmp 15) rfl w3.heap.size (drvCells (parseV s) a') rfl rfl 29 _ (heap_alloc_new w3 _) (by kernel_rfl) rfl (by simp [drvCells, Value.oneCell']) ?_
    | fail)
  obtain ⟨g2, hg2⟩ : ∃ g2, Hid (w3.heap.size = g2) := ⟨_, rfl⟩
  rw [hg2.out]
  have HBW : Hid (Below g2 w3 ((w3.alloc (.cells #[.slice none 0 0, .slice none 0 0, .slice none 0 0, .string ⟨#[]⟩, .string ⟨#[]⟩, .slice none 0 0, .slice none 0 0] 29)).setRow g2 (drvCells (parseV s) a'))) := below_setRow ((Below.refl g2 w3).alloc (by rw [← hg2.out]; exact Nat.le_refl _) _) (Nat.le_refl _) _
  have HK2 : Hid (Blk ((w3.alloc (.cells #[.slice none 0 0, .slice none 0 0, .slice none 0 0, .string ⟨#[]⟩, .string ⟨#[]⟩, .slice none 0 0, .slice none 0 0] 29)).setRow g2 (drvCells (parseV s) a')) g2 29 (drvCells (parseV s) a')) := by
    have h1 := Blk.new w3 29 #[.slice none 0 0, .slice none 0 0, .slice none 0 0, .string ⟨#[]⟩, .string ⟨#[]⟩, .slice none 0 0, .slice none 0 0]
    rw [hg2.out] at h1
    exact h1.row _
  generalize (w3.alloc (.cells #[.slice none 0 0, .slice none 0 0, .slice none 0 0, .string ⟨#[]⟩, .string ⟨#[]⟩, .slice none 0 0, .slice none 0 0] 29)).setRow g2 (drvCells (parseV s) a') = W4 at *
  have HBx : Hid (Below W2.heap.size W2 W4) := HB3.out.trans (HBW.out.mono (by rw [← hg2.out]; exact HB3.out.size))
  have HD4 := Lib.hid (HD3.out.below (by rw [hg2.out]; exact HBW.out))
  have HD5 := Lib.hid (HD2.out.below HBx.out)
  have HB4 : Hid (Below w.heap.size w W4) := HB2.out.trans (HBx.out.mono HB2.out.size)
  have hK1 : Hid (W4.heap[g1]? = some (.cells (drvCells (parseV s) a) 29 (0, 0))) := HK1.out.below HBx.out HK1.out.lt
  have hK2 : Hid (W4.heap[g2]? = some (.cells (drvCells (parseV s) a') 29 (0, 0))) := HK2.out
  have hsz : Hid ((drvCells (parseV s) a).size = 7) := rfl
  have hsz' : Hid ((drvCells (parseV s) a').size = 7) := rfl
  have HS := Lib.hid (same_any (parseV s) a a' (parse_fits s a) W4 HD5.out HD4.out)
  have HQ : Hid (∀ W, Below w.heap.size w W → Calls Tryd.prog 8 #[.string s] W fun e w' => e = .returned (.string ⟨(quo s.data.toList).toArray⟩) ∧ Below W.heap.size W w') := fun W hb => quote_any s W (HT.out.below hb) (by omega)
  have HQR : Hid (∀ W, Calls Tryd.prog 18 #[.string s] W fun e w' => e = .returned (.string ⟨(quo s.data.toList).toArray⟩) ∧ Below W.heap.size W w') := fun W => refQuote_any s W (by omega)
  have HN : Hid (∀ W, Calls Tryd.prog 15 #[] W fun e w' => e = .returned (.bool true) ∧ w' = W) := fun W => names_any W
  obtain ⟨q, hq⟩ : ∃ q : ByteArray, Hid ((⟨(quo s.data.toList).toArray⟩ : ByteArray) = q) := ⟨_, rfl⟩
  rw [hq.out] at HQ HQR
  clear HR HK1 HK2 HBW
  go_wp2_with (first
    | refine wpList_load_row rfl 29 (.tmp 3) rfl g1 rfl 29 (drvCells (parseV s) a) (0, 0) _ hK1.out Tryd.underlying29 rfl (by rw [hsz.out]; kernel_rfl) ?_
    | refine wpList_load_row rfl 29 (.tmp 5) rfl g2 rfl 29 (drvCells (parseV s) a') (0, 0) _ hK2.out Tryd.underlying29 rfl (by rw [hsz'.out]; kernel_rfl) ?_
    | (go_at_call 14; refine HS.out.mono ?_; rintro e w5 ⟨rfl, hb⟩; have HB5 : Hid (Below w.heap.size w w5) := HB4.out.trans (hb.mono HB4.out.size); clear hb)
    | (go_at_call 8; refine (HQ.out _ HB5.out).mono ?_; rintro e w6 ⟨rfl, hb⟩; have HB6 : Hid (Below w.heap.size w w6) := HB5.out.trans (hb.mono HB5.out.size); clear hb)
    | (go_at_call 18; refine (HQR.out _).mono ?_; rintro e w7 ⟨rfl, hb⟩; have HB7 : Hid (Below w.heap.size w w7) := HB6.out.trans (hb.mono HB6.out.size); clear hb)
    | (go_at_call 15; refine (HN.out _).mono ?_; rintro e w8 ⟨rfl, hw⟩; have HB8 : Hid (Below w.heap.size w w8) := (by rw [hw]; exact HB7.out); clear hw)
    | fail)
  go_ret
  exact ⟨rfl, HB8.out⟩
end Go.Proofs.YtbldognffppeiaaDoor
