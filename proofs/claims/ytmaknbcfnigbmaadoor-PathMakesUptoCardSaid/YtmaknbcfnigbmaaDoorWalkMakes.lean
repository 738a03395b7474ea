/- PathMakes, walked. -/
import Derived.Test.YtmaknbcfnigbmaaDoorWalkRefMake
import Derived.Test.YtmaknbcfnigbmaaDoorWalkSplits
namespace Go.Proofs.YtmaknbcfnigbmaaDoor
open Go.RowKit Sig Names Go.Proofs.YtmaknbcfnigbmaaDoorW.PrintWords
set_option linter.unusedSimpArgs false
theorem MakePost.same {k n : ByteArray} {d : List UInt8} {s s' : ByteArray} {c c' : Int}
    (h : (okMake k.data.toList n.data.toList = true ∧ s.data.toList = mkPath k.data.toList d n.data.toList ∧ c = 0) ∨ (okMake k.data.toList n.data.toList = false ∧ s = ⟨#[]⟩ ∧ c = 17))
    (h' : (okMake k.data.toList n.data.toList = true ∧ s'.data.toList = mkPath k.data.toList d n.data.toList ∧ c' = 0) ∨ (okMake k.data.toList n.data.toList = false ∧ s' = ⟨#[]⟩ ∧ c' = 17)) : s' = s ∧ c' = c := by
  rcases h with ⟨h1, h2, h3⟩ | ⟨h1, h2, h3⟩ <;> rcases h' with ⟨k1, k2, k3⟩ | ⟨k1, k2, k3⟩
  · exact ⟨ext_list (k2.trans h2.symm), k3.trans h3.symm⟩
  · rw [h1] at k1; cases k1
  · rw [h1] at k1; cases k1
  · exact ⟨k2.trans h2.symm, k3.trans h3.symm⟩
set_option maxHeartbeats 4000000 in
set_option maxRecDepth 100000 in
theorem makes_any (k n : ByteArray) (d : List UInt8) (hd : d.length = 32) (hk : k.size ≤ 1048576) (hn : n.size ≤ 1048576) (w : World) (hR : Ranges w) (hCu : Cubes w) (hSq : Squares w) :
    Calls Tryd.prog 10 #[.string k, .agg (cellsB d), .string n] w fun e w' => e = .returned (.bool true) ∧ Below w.heap.size w w' := by
  have HD := Lib.hid hd
  have LK := Lib.hid hk
  have LN := Lib.hid hn
  have HR := Lib.hid hR
  have HCu := Lib.hid hCu
  have HSq := Lib.hid hSq
  have HSD : Hid ((cellsB d).size = 32) := by rw [Hid, cellsB_size]; exact hd
  have HB := Lib.hid (Blk.new w 41 (cellsB d))
  have HW := Lib.hid ((Below.refl w.heap.size w).alloc (Nat.le_refl _) (.cells (cellsB d) 41))
  clear hd hk hn hR hCu hSq
  go_enter Tryd.func10, Tryd.ntmps10
  go_wp2_with (refine wpList_load_row rfl 41 (.tmp 4) rfl w.heap.size rfl 41 (cellsB d) (0, 0) _ HB.out Tryd.underlying41 rfl (by rw [HSD.out]; kernel_rfl) ?_)
  refine (make_any k n d HD.out LK.out LN.out _ (HR.out.below HW.out) (HCu.out.below HW.out) (HSq.out.below HW.out)).mono ?_
  rintro e w2 ⟨hb2, s, c, rfl, hs⟩
  have HS := Lib.hid hs
  have HB2 := Lib.hid (HB.out.below hb2 (Blk.lt HB.out))
  have HW2 := Lib.hid (below_step' HW.out hb2)
  clear hs hb2 HB HW
  go_wp2_with (refine wpList_load_row rfl 41 (.tmp 4) rfl w.heap.size rfl 41 (cellsB d) (0, 0) _ HB2.out Tryd.underlying41 rfl (by rw [HSD.out]; kernel_rfl) ?_)
  refine (refMake_any k n d HD.out LK.out LN.out w2).mono ?_
  rintro e w3 ⟨hb3, s', c', rfl, hs'⟩
  obtain ⟨rfl, rfl⟩ := MakePost.same HS.out hs'
  have HW3 := Lib.hid (below_step' HW2.out hb3)
  clear hs' hb3 HS HB2 HW2
  have HNa : Hid (∀ W, Ranges W → Calls Tryd.prog 32 #[.string n] W fun e w' => e = .returned (.bool (isName n.data.toList)) ∧ Below W.heap.size W w') := fun W h => name_any n W h LN.out
  have HNb : Hid (∀ W, Calls Tryd.prog 33 #[.string n] W fun e w' => e = .returned (.bool (isName n.data.toList)) ∧ Drawn0 W w') := fun W => refName_any n W LN.out
  generalize isName n.data.toList = b at *
  go_wp2_with fail
  refine (HNa.out w3 (HR.out.below HW3.out)).mono ?_
  rintro e w4 ⟨rfl, hb4⟩
  have HW4 := Lib.hid (below_step' HW3.out hb4)
  clear hb4 HW3
  go_wp2_with fail
  refine (HNb.out w4).mono ?_
  rintro e w5 ⟨rfl, ⟨nd, rfl⟩⟩
  have HW5 : Hid (Below w.heap.size w (w4.drewN nd)) := below_drewN' HW4.out nd
  have hbb : (b == b) = true := by simp
  clear HNa HNb
  cases b
  all_goals
    go_wp2_with fail
    refine (names09 _).mono ?_
    rintro e w6 ⟨rfl, rfl⟩
    go_wp2_with fail
    go_ret
    exact ⟨rfl, HW5.out⟩
end Go.Proofs.YtmaknbcfnigbmaaDoor
