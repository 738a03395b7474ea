/- PathApart, walked. -/
import Derived.Test.YtmaknbcfnigbmaaDoorWalkPBack
namespace Go.Proofs.YtmaknbcfnigbmaaDoor
open Go.RowKit Sig Names Go.Proofs.YtmaknbcfnigbmaaDoorW.PrintWords
set_option linter.unusedSimpArgs false
set_option linter.unusedVariables false
/-- A load of one cell, out of the middle of a block. -/
theorem run_loadVar_one {P : Program} (w : World) (ty : TypeId) (ad : Addr) (v : Value) (hag : ∀ w, (isAgg ty).run P w = .ok false w) (hc : w.cell? ad = some v) : (loadVar ty ad).run P w = .ok v w := by
  simp [loadVar, Sem.run_bind, hag, Go.load, go_sem, Sem.run, hc]
theorem wpList_load_one {P : Program} {ops : Array Oper} {rest : List Oper} {o : Oper} {a : Act} {w : World} {Q : Exit → Act → World → Prop} (hw : Region.wanted o (yielded ops a.tmps) = true) (ty : TypeId) (x : Operand) (ho : o.op = .load ty x)
    (ad : Addr) (hx : a.eval x = .pointer (some ad)) (v : Value) (hag : ∀ w, (isAgg ty).run P w = .ok false w) (hc : w.cell? ad = some v)
    (h : wpList P ops Q rest (a.put o.dst v) w) : wpList P ops Q (o :: rest) a w := by
  unfold wpList
  rw [if_pos hw]
  refine .inl ?_
  unfold Oper.wp execOp
  simp only [ho, hx, Instr.loadAt, Instr.sureAddr, Sem.run_bind, Sem.run_pure, Result.andThen_ok, run_loadVar_one w ty ad v hag hc]
  exact h
theorem wpList_load_mid_if {P : Program} {ops : Array Oper} {rest : List Oper} {op : Oper} {a : Act} {w : World} {Q : Exit → Act → World → Prop} (hw : Region.wanted op (yielded ops a.tmps) = true) (ty : TypeId) (x : Operand) (ho : op.op = .load ty x)
    (b o : Nat) (hx : a.eval x = .pointer (some ⟨b, o, none⟩)) (cs : List Value) (d : TypeDesc) (hc : w.rangeAt b o cs)
    (hu : P.underlying ty = some d) (hd : d.isRow = true) (hi : (P.info? ty).map (·.size) = some cs.length)
    (h : wpList P ops Q rest (a.put op.dst (.agg cs.toArray)) w) : wpList P ops Q (op :: rest) a w := by
  unfold wpList
  rw [if_pos hw]
  exact .inl (wp_load_mid ty x ho b o hx cs d hc hu hd hi h)
def ApHeld (k0 k1 n0 n1 : ByteArray) (d0 d1 : List UInt8) (w W : World) : Prop :=
  Blk W w.heap.size 61 #[.string k0, .string k1] ∧ Blk W (w.heap.size + 1) 62 (cellsB (d0 ++ d1)) ∧ Blk W (w.heap.size + 1 + 1) 61 #[.string n0, .string n1] ∧ Below w.heap.size w W
theorem ApHeld.below {k0 k1 n0 n1 : ByteArray} {d0 d1 : List UInt8} {w W W2 : World} (h : ApHeld k0 k1 n0 n1 d0 d1 w W) (hb : Below W.heap.size W W2) : ApHeld k0 k1 n0 n1 d0 d1 w W2 :=
  ⟨h.1.below hb (Blk.lt h.1), h.2.1.below hb (Blk.lt h.2.1), h.2.2.1.below hb (Blk.lt h.2.2.1), below_step' h.2.2.2 hb⟩
theorem ApHeld.new (k0 k1 n0 n1 : ByteArray) (d0 d1 : List UInt8) (w : World) : ApHeld k0 k1 n0 n1 d0 d1 w (((w.alloc (.cells #[.string k0, .string k1] 61)).alloc (.cells (cellsB (d0 ++ d1)) 62)).alloc (.cells #[.string n0, .string n1] 61)) :=
  ⟨((Blk.new w 61 _).alloc _).alloc _, (blk_alloc2 w _ 62 _).alloc _, by
    have h := Blk.new ((w.alloc (.cells #[.string k0, .string k1] 61)).alloc (.cells (cellsB (d0 ++ d1)) 62)) 61 #[.string n0, .string n1]
    simp only [World.size_alloc] at h
    exact h, (((Below.refl w.heap.size w).alloc (Nat.le_refl _) _).alloc (by simp) _).alloc (by simp only [World.size_alloc]; omega) _⟩
theorem ApHeld.low {k0 k1 n0 n1 : ByteArray} {d0 d1 : List UInt8} {w W : World} (h : ApHeld k0 k1 n0 n1 d0 d1 w W) : W.rangeAt (w.heap.size + 1) 0 (Lib.byteCells d0) := by
  intro j v hj
  rw [Nat.zero_add, h.2.1.cell]
  have hj2 : (Lib.byteCells (d0 ++ d1))[j]? = some v := by
    have hlt := (List.getElem?_eq_some_iff.1 hj).1
    have : Lib.byteCells (d0 ++ d1) = Lib.byteCells d0 ++ Lib.byteCells d1 := by simp [Lib.byteCells]
    rw [this, List.getElem?_append_left hlt]; exact hj
  simpa [cellsB, Lib.byteCells] using hj2
theorem ApHeld.high {k0 k1 n0 n1 : ByteArray} {d0 d1 : List UInt8} {w W : World} (h : ApHeld k0 k1 n0 n1 d0 d1 w W) (h32 : d0.length = 32) : W.rangeAt (w.heap.size + 1) 32 (Lib.byteCells d1) := by
  intro j v hj
  rw [h.2.1.cell]
  have hj2 : (Lib.byteCells (d0 ++ d1))[32 + j]? = some v := by
    have : Lib.byteCells (d0 ++ d1) = Lib.byteCells d0 ++ Lib.byteCells d1 := by simp [Lib.byteCells]
    rw [this, List.getElem?_append_right (by rw [Lib.byteCells_length, h32]; omega), Lib.byteCells_length, h32]
    simpa using hj
  simpa [cellsB, Lib.byteCells] using hj2
theorem path_meet (k n : ByteArray) (d : List UInt8) (hok : okMake k.data.toList n.data.toList = true) (x : ByteArray) (h : x.data.toList = mkPath k.data.toList d n.data.toList) :
    Good x ∧ x.size ≤ 1048576 ∧ (((x.extract 7 39).size : Int) == 32) = true ∧ x = pathB k.data.toList d n.data.toList := by
  have nx : isName n.data.toList = true := by
    unfold okMake at hok
    simp only [Bool.and_eq_true] at hok
    exact hok.1.1
  obtain rfl : x = pathB k.data.toList d n.data.toList := ext_list (h.trans (pathB_list _ _ _).symm)
  refine ⟨path_good _ _ _ nx, ?_, ?_, rfl⟩
  · rw [pathB_size]
    unfold isName at nx
    simp only [Bool.and_eq_true, decide_eq_true_eq] at nx
    omega
  · have h1 := congrArg List.length (path_signs k.data.toList d n.data.toList)
    rw [short_len] at h1
    have h2 : ((pathB k.data.toList d n.data.toList).extract 7 39).data.toList.length = ((pathB k.data.toList d n.data.toList).extract 7 39).size := Array.length_toList
    rw [beq_iff_eq]; omega
theorem str_beq (a b : ByteArray) (h : a = b) : (a.toList == b.toList) = true := by subst h; simp
theorem str_bne (a b : ByteArray) (h : a ≠ b) : (a.toList == b.toList) = false := list_bne _ _ (by rw [toList_data, toList_data]; exact fun e => h (ext_list e))
set_option maxHeartbeats 40000000 in
set_option maxRecDepth 100000 in
theorem apart_any (k0 k1 n0 n1 : ByteArray) (d0 d1 : List UInt8) (hd0 : d0.length = 32) (hd1 : d1.length = 32) (hk0 : k0.size ≤ 1048576) (hk1 : k1.size ≤ 1048576) (hn0 : n0.size ≤ 1048576) (hn1 : n1.size ≤ 1048576) (w : World) (hT : Tabs w) :
    Calls Tryd.prog 11 #[.agg #[.string k0, .string k1], .agg (cellsB (d0 ++ d1)), .agg #[.string n0, .string n1]] w fun e w' => e = .returned (.bool true) ∧ Below w.heap.size w w' := by
  have HT := Lib.hid hT
  have HH := Lib.hid (ApHeld.new k0 k1 n0 n1 d0 d1 w)
  have M0 : Hid (∀ W, Tabs W → Calls Tryd.prog 30 #[.string k0, .agg (Lib.byteCells d0).toArray, .string n0] W (MakePost k0 n0 d0 W)) := fun W h => make_any k0 n0 d0 hd0 hk0 hn0 W h.2.1 h.2.2.1 h.2.2.2
  have M1 : Hid (∀ W, Tabs W → Calls Tryd.prog 30 #[.string k1, .agg (Lib.byteCells d1).toArray, .string n1] W (MakePost k1 n1 d1 W)) := fun W h => make_any k1 n1 d1 hd1 hk1 hn1 W h.2.1 h.2.2.1 h.2.2.2
  have hi0 : (Tryd.prog.info? 41).map (·.size) = some (Lib.byteCells d0).length := by rw [Lib.byteCells_length, hd0]; kernel_rfl
  have hi1 : (Tryd.prog.info? 41).map (·.size) = some (Lib.byteCells d1).length := by rw [Lib.byteCells_length, hd1]; kernel_rfl
  have I0 := Lib.hid hi0
  have I1 := Lib.hid hi1
  have D0 := Lib.hid hd0
  have D1 := Lib.hid hd1
  have S : Hid (∀ (s : ByteArray) W, Tabs W → Good s → s.size ≤ 1048576 → Calls Tryd.prog 18 #[.string s] W fun e w' => e = .returned (.tuple #[.string (s.extract 7 39), .string (s.extract 40 s.size), .int .i64 0]) ∧ Below W.heap.size W w') := fun s W h hg hs => by
    have h1 := split_any s W h.1 h.2.1 hs
    rw [split_good hg] at h1
    exact h1
  clear hT hi0 hi1 hd0 hd1 hk0 hk1 hn0 hn1
  go_enter Tryd.func11, Tryd.ntmps11
  go_upto_region 1 with (fail)
  change Code.wp _ _ _ _ (((w.alloc (.cells #[.string k0, .string k1] 61)).alloc (.cells (cellsB (d0 ++ d1)) 62)).alloc (.cells #[.string n0, .string n1] 61))
  generalize ((w.alloc (.cells #[.string k0, .string k1] 61)).alloc (.cells (cellsB (d0 ++ d1)) 62)).alloc (.cells #[.string n0, .string n1] 61) = w1 at *
  have c0 : w1.cell? ⟨w.heap.size, 0, none⟩ = some (.string k0) := HH.out.1.cell 0
  have c1 : w1.cell? ⟨w.heap.size, 1, none⟩ = some (.string k1) := HH.out.1.cell 1
  have c2 : w1.cell? ⟨w.heap.size + 1 + 1, 0, none⟩ = some (.string n0) := HH.out.2.2.1.cell 0
  have c3 : w1.cell? ⟨w.heap.size + 1 + 1, 1, none⟩ = some (.string n1) := HH.out.2.2.1.cell 1
  go_wp2_with (first | refine wpList_load_mid_if (by rfl) 41 _ rfl _ 0 rfl _ _ (Hid.out HH).low Tryd.underlying41 rfl I0.out ?_ | refine wpList_load_mid_if (by rfl) 41 _ rfl _ 32 rfl _ _ ((Hid.out HH).high D0.out) Tryd.underlying41 rfl I1.out ?_)
  refine (M0.out _ (HT.out.below HH.out.2.2.2)).mono ?_
  rintro e w2 ⟨hb, x, c, rfl, hx⟩
  have HH2 := Lib.hid (HH.out.below hb)
  have HX := Lib.hid hx
  clear hb hx HH c0 c1 c2 c3
  have c0 : w2.cell? ⟨w.heap.size, 0, none⟩ = some (.string k0) := HH2.out.1.cell 0
  have c1 : w2.cell? ⟨w.heap.size, 1, none⟩ = some (.string k1) := HH2.out.1.cell 1
  have c2 : w2.cell? ⟨w.heap.size + 1 + 1, 0, none⟩ = some (.string n0) := HH2.out.2.2.1.cell 0
  have c3 : w2.cell? ⟨w.heap.size + 1 + 1, 1, none⟩ = some (.string n1) := HH2.out.2.2.1.cell 1
  go_wp2_with (first | refine wpList_load_mid_if (by rfl) 41 _ rfl _ 0 rfl _ _ (Hid.out HH2).low Tryd.underlying41 rfl I0.out ?_ | refine wpList_load_mid_if (by rfl) 41 _ rfl _ 32 rfl _ _ ((Hid.out HH2).high D0.out) Tryd.underlying41 rfl I1.out ?_)
  refine (M1.out _ (HT.out.below HH2.out.2.2.2)).mono ?_
  rintro e w3 ⟨hb, y, c', rfl, hy⟩
  have HH3 := Lib.hid (HH2.out.below hb)
  have hx := HX.out
  clear hb HX HH2 c0 c1 c2 c3
  rcases hx with ⟨ox, ex, rfl⟩ | ⟨_, rfl, rfl⟩
  · rcases hy with ⟨oy, ey, rfl⟩ | ⟨_, rfl, rfl⟩
    · obtain ⟨gx, sx, lx, ex⟩ := path_meet k0 n0 d0 ox x ex
      obtain ⟨gy, sy, ly, ey⟩ := path_meet k1 n1 d1 oy y ey
      have hall : Hid (k0 = k1 → d0 = d1 → n0 = n1 → x = y) := fun h1 h2 h3 => by rw [ex, ey, h1, h2, h3]
      have GX := Lib.hid gx
      have GY := Lib.hid gy
      have SX := Lib.hid sx
      have SY := Lib.hid sy
      have LX := Lib.hid lx
      obtain ⟨i0, hi0, hz0, hz1, hz2⟩ := info_parts info8'
      have hce5 : Tryd.prog.cellsOf 5 = 1 := by kernel_rfl
      have hq : Hid (∀ W, (Op.equalIn 10000 41 (.agg (Lib.byteCells d0).toArray) (.agg (Lib.byteCells d1).toArray)).run Tryd.prog W = .ok (d0 == d1) W) := fun W =>
        run_equal_bytes Tryd.underlying41 hi0 hce5 Tryd.underlying5 Tryd.isAgg5 d0 d1 D0.out D1.out W
      have hge : Tryd.prog.eqGuardType Tryd.prog.depth 41 = false := by kernel_rfl
      clear ox oy ex ey gx sx lx gy sy ly hi0 hz0 hz1 hz2 hce5
      go_wp2_with fail
      refine (S.out _ _ (HT.out.below HH3.out.2.2.2) GX.out SX.out).mono ?_
      rintro e w4 ⟨rfl, hb⟩
      have HH4 := Lib.hid (HH3.out.below hb)
      clear hb HH3
      go_wp2_with fail
      refine (S.out _ _ (HT.out.below HH4.out.2.2.2) GY.out SY.out).mono ?_
      rintro e w5 ⟨rfl, hb⟩
      have HH5 := Lib.hid (HH4.out.below hb)
      clear hb HH4
      have c0 : w5.cell? ⟨w.heap.size, 0, none⟩ = some (.string k0) := HH5.out.1.cell 0
      have c1 : w5.cell? ⟨w.heap.size, 1, none⟩ = some (.string k1) := HH5.out.1.cell 1
      have c2 : w5.cell? ⟨w.heap.size + 1 + 1, 0, none⟩ = some (.string n0) := HH5.out.2.2.1.cell 0
      have c3 : w5.cell? ⟨w.heap.size + 1 + 1, 1, none⟩ = some (.string n1) := HH5.out.2.2.1.cell 1
      have hlen := LX.out
      have hqq := hq.out
      have hxs : Hid (x = y → x.extract 7 39 = y.extract 7 39) := fun h => by rw [h]
      generalize x.extract 7 39 = xs at *
      generalize y.extract 7 39 = ys at *
      generalize x.extract 40 x.size = xn at *
      generalize y.extract 40 y.size = yn at *
      clear GX GY SX SY LX hq S M0 M1 HT
      by_cases hxy : x = y
      · have hs := str_beq xs ys (hxs.out hxy)
        have hxy1 := str_beq x y hxy
        clear hxs hxy
        by_cases h1 : k0 = k1
        · have e1 := str_beq k0 k1 h1
          by_cases h2 : d0 = d1
          · have e2 := list_beq d0 d1 h2
            by_cases h3 : n0 = n1
            · have e3 := str_beq n0 n1 h3
              clear h1 h2 h3 hall
              rw [e2] at hqq
              go_wp2_with (first | refine wpList_load_mid_if (by rfl) 41 _ rfl _ 0 rfl _ _ (Hid.out HH5).low Tryd.underlying41 rfl I0.out ?_ | refine wpList_load_mid_if (by rfl) 41 _ rfl _ 32 rfl _ _ ((Hid.out HH5).high D0.out) Tryd.underlying41 rfl I1.out ?_)
              go_ret
              exact ⟨rfl, HH5.out.2.2.2⟩
            · have e3 := str_bne n0 n1 h3
              clear h1 h2 h3 hall
              rw [e2] at hqq
              go_wp2_with (first | refine wpList_load_mid_if (by rfl) 41 _ rfl _ 0 rfl _ _ (Hid.out HH5).low Tryd.underlying41 rfl I0.out ?_ | refine wpList_load_mid_if (by rfl) 41 _ rfl _ 32 rfl _ _ ((Hid.out HH5).high D0.out) Tryd.underlying41 rfl I1.out ?_)
              go_ret
              exact ⟨rfl, HH5.out.2.2.2⟩
          · have e2 := list_bne d0 d1 h2
            clear h1 h2 hall
            rw [e2] at hqq
            go_wp2_with (first | refine wpList_load_mid_if (by rfl) 41 _ rfl _ 0 rfl _ _ (Hid.out HH5).low Tryd.underlying41 rfl I0.out ?_ | refine wpList_load_mid_if (by rfl) 41 _ rfl _ 32 rfl _ _ ((Hid.out HH5).high D0.out) Tryd.underlying41 rfl I1.out ?_)
            go_ret
            exact ⟨rfl, HH5.out.2.2.2⟩
        · have e1 := str_bne k0 k1 h1
          clear h1 hall
          go_wp2_with fail
          go_ret
          exact ⟨rfl, HH5.out.2.2.2⟩
      · have hxy1 := str_bne x y hxy
        clear hxs
        by_cases h1 : k0 = k1
        · have e1 := str_beq k0 k1 h1
          by_cases h2 : d0 = d1
          · have e2 := list_beq d0 d1 h2
            by_cases h3 : n0 = n1
            · exact (hxy (hall.out h1 h2 h3)).elim
            · have e3 := str_bne n0 n1 h3
              clear h1 h2 h3 hall hxy
              rw [e2] at hqq
              go_wp2_with (first | refine wpList_load_mid_if (by rfl) 41 _ rfl _ 0 rfl _ _ (Hid.out HH5).low Tryd.underlying41 rfl I0.out ?_ | refine wpList_load_mid_if (by rfl) 41 _ rfl _ 32 rfl _ _ ((Hid.out HH5).high D0.out) Tryd.underlying41 rfl I1.out ?_)
              go_ret
              exact ⟨rfl, HH5.out.2.2.2⟩
          · have e2 := list_bne d0 d1 h2
            clear h1 h2 hall hxy
            rw [e2] at hqq
            go_wp2_with (first | refine wpList_load_mid_if (by rfl) 41 _ rfl _ 0 rfl _ _ (Hid.out HH5).low Tryd.underlying41 rfl I0.out ?_ | refine wpList_load_mid_if (by rfl) 41 _ rfl _ 32 rfl _ _ ((Hid.out HH5).high D0.out) Tryd.underlying41 rfl I1.out ?_)
            go_ret
            exact ⟨rfl, HH5.out.2.2.2⟩
        · have e1 := str_bne k0 k1 h1
          clear h1 hall hxy
          go_wp2_with fail
          go_ret
          exact ⟨rfl, HH5.out.2.2.2⟩
    · clear ox ex
      have HB := Lib.hid HH3.out.2.2.2
      go_wp2_with fail
      go_ret
      exact ⟨rfl, HB.out⟩
  · rcases hy with ⟨oy, ey, rfl⟩ | ⟨_, rfl, rfl⟩
    · clear oy ey
      have HB := Lib.hid HH3.out.2.2.2
      go_wp2_with fail
      go_ret
      exact ⟨rfl, HB.out⟩
    · have HB := Lib.hid HH3.out.2.2.2
      go_wp2_with fail
      go_ret
      exact ⟨rfl, HB.out⟩
end Go.Proofs.YtmaknbcfnigbmaaDoor
