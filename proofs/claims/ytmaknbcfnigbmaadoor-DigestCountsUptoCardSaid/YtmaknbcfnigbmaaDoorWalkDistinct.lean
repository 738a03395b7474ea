/- digest.Distinct, walked: how many of the rows are unlike each before them. -/
import Derived.Test.YtmaknbcfnigbmaaDoorKeyArr
import Derived.Test.YtmaknbcfnigbmaaDoorWalkDBack
import Derived.Maps.OwnIn
import Derived.Deep.MidRow
namespace Go.Proofs.YtmaknbcfnigbmaaDoor
open Go.RowKit Sig Go.Maps Go.Proofs.YtmaknbcfnigbmaaDoorW.PrintWords
set_option linter.unusedSimpArgs false
set_option linter.unusedVariables false
/-- How many of the first i rows are unlike each row before them. -/
def dnK (rs : List (List UInt8)) : Nat → Nat
  | 0 => 0
  | i + 1 => dnK rs i + if (rs.take i).any (· == rs.getD i []) then 0 else 1
theorem dnK_le (rs : List (List UInt8)) : ∀ i, dnK rs i ≤ i
  | 0 => Nat.le_refl _
  | i + 1 => by
    have := dnK_le rs i
    unfold dnK
    split <;> omega
/-- The rows that a slice of arrays holds. -/
def ReadsR (W : World) (g o : Nat) (rs : List (List UInt8)) : Prop := ∀ i row, rs[i]? = some row → row.length = 32 ∧ W.rangeAt g (o + i * 32) (Lib.byteCells row)
theorem ReadsR.below {W W2 : World} {g o : Nat} {rs : List (List UInt8)} (h : ReadsR W g o rs) (hb : Below W.heap.size W W2) : ReadsR W2 g o rs := fun i row hr => ⟨(h i row hr).1, fun j v hj => (hb.cell (World.block_lt_of_cell? W _ ((h i row hr).2 j v hj))).trans ((h i row hr).2 j v hj)⟩
theorem below_turned {g b : Nat} {w W W' : World} (h : Below g w W) (k : W.mapTurned W' b) (hb : g ≤ b) (hg : g ≤ W.heap.size) : Below g w W' := by
  have q := k.grown
  exact ⟨q.os.trans h.os, q.tape.trans h.tape, q.output.trans h.output, Nat.le_trans h.size q.size, fun i hi => (q.block i (by omega) (fun e => by injection e; omega)).trans (h.block i hi)⟩
/-- What the map says in round i. -/
def DState (rs : List (List UInt8)) (i : Nat) (w W : World) : Prop :=
  Below w.heap.size w W ∧ ∃ D : DataW Unit, W.ownsMap Tryd.prog 42 (plainElem Tryd.prog 3) w.heap.size i D ∧ size D = dnK rs i ∧ ∀ l : List UInt8, has D (.string l) = (rs.take i).any (· == l)
theorem DState.start (rs : List (List UInt8)) (w : World) : DState rs 0 w (w.alloc (.map #[] 0)) :=
  ⟨(Below.refl w.heap.size w).alloc (Nat.le_refl _) _, .map [], World.ownsMap_made w _ _ _, rfl, fun l => rfl⟩
theorem take_any (rs : List (List UInt8)) (i : Nat) (hi : i < rs.length) (l : List UInt8) : (rs.take (i + 1)).any (· == l) = ((rs.take i).any (· == l) || rs.getD i [] == l) := by
  rw [List.take_add_one, List.any_append, List.getD_eq_getElem?_getD, List.getElem?_eq_getElem hi]
  simp

theorem dnK_succ (rs : List (List UInt8)) (i : Nat) : dnK rs (i + 1) = dnK rs i + if (rs.take i).any (· == rs.getD i []) then 0 else 1 := rfl
theorem own_of_block {w W : World} {k : TypeId} {R : Value → Option (DataW Unit × List MemPlace)} {b n : Nat} {D : DataW Unit} (h : w.ownsMap Tryd.prog k R b n D) (hb : W.heap[b]? = w.heap[b]?) : W.ownsMap Tryd.prog k R b n D := by
  obtain ⟨es, clock, h1, h2⟩ := h
  exact ⟨es, clock, hb.trans h1, h2⟩
theorem DState.same {rs : List (List UInt8)} {i : Nat} {w W W2 : World} (h : DState rs i w W) (hb : Below W.heap.size W W2) : DState rs i w W2 := by
  obtain ⟨h1, D, h2, h3, h4⟩ := h
  exact ⟨below_step' h1 hb, D, own_of_block h2 (hb.block _ h2.lt), h3, h4⟩
theorem DState.found {rs : List (List UInt8)} {i : Nat} {w W : World} (h : DState rs i w W) (hi : i < rs.length) (hf : (rs.take i).any (· == rs.getD i []) = true) : DState rs (i + 1) w W := by
  obtain ⟨h1, D, h2, h3, h4⟩ := h
  refine ⟨h1, D, h2.mono (by omega), ?_, fun l => ?_⟩
  · rw [h3, dnK_succ, hf]; rfl
  · rw [h4, take_any rs i hi]
    cases he : rs.getD i [] == l
    · simp
    · have : rs.getD i [] = l := by simpa using he
      rw [← this, hf]; rfl
theorem DState.put {rs : List (List UInt8)} {i : Nat} {w W W2 : World} {D : DataW Unit} {d : DataW Unit} (h1 : Below w.heap.size w W) (h2 : W.ownsMap Tryd.prog 42 (plainElem Tryd.prog 3) w.heap.size i D) (h3 : size D = dnK rs i) (h4 : ∀ l : List UInt8, has D (.string l) = (rs.take i).any (· == l))
    (hi : i < rs.length) (hf : (rs.take i).any (· == rs.getD i []) = false) (k1 : W2.ownsMap Tryd.prog 42 (plainElem Tryd.prog 3) w.heap.size (i + 1) (D.put (.string (rs.getD i [])) d)) (k2 : W.mapTurned W2 w.heap.size) : DState rs (i + 1) w W2 := by
  refine ⟨below_turned h1 k2 (Nat.le_refl _) h1.size, _, k1, ?_, fun l => ?_⟩
  · rw [size_put (h2.tidy arr_keyed), h4, hf, h3, dnK_succ, hf]; rfl
  · rw [take_any rs i hi]
    by_cases he : rs.getD i [] = l
    · subst he
      rw [has_put_same h2.isMap (by simp [WideAt.IsKeyLit])]
      simp
    · rw [has_put_other (fun e => he (by injection e with e; exact e.symm)), h4]
      have h5 : (rs.getD i [] == l) = false := by simpa using he
      rw [h5, Bool.or_false]

set_option maxHeartbeats 4000000 in
set_option maxRecDepth 100000 in
theorem distinct_some (rs : List (List UInt8)) (g o c : Nat) (hc : rs.length ≤ c) (hl : rs.length ≤ 1048576) (w : World) (hr : ReadsR w g o rs) :
    Calls Tryd.prog 23 #[.slice (some ⟨g, o, none⟩) rs.length c] w fun e w' => e = .returned (.int .i64 (dnK rs rs.length)) ∧ Below w.heap.size w w' := by
  have HR := Lib.hid hr
  have HS := Lib.hid (DState.start rs w)
  have hmm := @run_makeMap Tryd.prog
  clear hr
  go_enter Tryd.func23, Tryd.ntmps23
  go_wp2_with fail
  go_loopw [11] (fun t11 wr => ∃ i : Nat, t11 = .int .i64 i ∧ i ≤ rs.length ∧ Hid (DState rs i w wr)) (fun t11 _ => rs.length - (intOf t11).toNat)
  case atStart => exact ⟨0, rfl, by omega, HS⟩
  case round =>
    clear HS
    obtain ⟨i, rfl, hi, HSi⟩ := hrel
    by_cases hlt : i < rs.length
    · obtain ⟨row, hrw⟩ : ∃ row, Hid (rs.getD i [] = row) := ⟨_, rfl⟩
      have hrow : rs[i]? = some row := by rw [← hrw.out, List.getD_eq_getElem?_getD, List.getElem?_eq_getElem hlt]; rfl
      have h32 := Lib.hid (HR.out i row hrow).1
      have hrd := Lib.hid (((HR.out.below HSi.out.1) i row hrow).2)
      have hi42 : Hid ((Tryd.prog.info? 42).map (·.size) = some (Lib.byteCells row).length) := by rw [Hid, Lib.byteCells_length, h32.out]; kernel_rfl
      have HSC : Hid ((cellsB row).size = 32) := by rw [Hid, cellsB_size]; exact h32.out
      have HZ : Hid ((cellsB (List.replicate 32 0)).size = (cellsB row).size) := by rw [Hid, HSC.out]; rfl
      clear hrow
      go_upto_region 5 with (first
        | refine wpList_load_mid rfl 42 (.tmp 14) rfl g (o + i * 32) rfl (Lib.byteCells row) _ hrd.out Tryd.underlying42 rfl hi42.out ?_
        | refine wpList_store_row rfl 42 (.tmp 5) (.tmp 15) rfl wr.heap.size (cellsB row) rfl rfl 42 _ (Blk.new wr 42 (cellsB (List.replicate 32 0))) (by rw [HSC.out]; kernel_rfl) HZ.out (cellsB_one _) ?_)
      change Code.wp _ _ _ _ ((wr.alloc (.cells (cellsB (List.replicate 32 0)) 42)).setRow wr.heap.size (cellsB row))
      have HB5 := Lib.hid (Blk.row (Blk.new wr 42 (cellsB (List.replicate 32 0))) (cellsB row))
      have HS5 := Lib.hid (HSi.out.same (below_setRow ((Below.refl wr.heap.size wr).alloc (Nat.le_refl _) (.cells (cellsB (List.replicate 32 0)) 42)) (Nat.le_refl _) (cellsB row)))
      generalize ((wr.alloc (.cells (cellsB (List.replicate 32 0)) 42)).setRow wr.heap.size (cellsB row)) = w5 at *
      obtain ⟨g5, hg5⟩ : ∃ g5, Hid (g5 = wr.heap.size) := ⟨_, rfl⟩
      rw [← hg5.out] at HB5 ⊢
      obtain ⟨hb5, D, hown, hsz, hhas⟩ := HS5.out
      have hkey := key_arr row h32.out
      have hwi : (Lit.int .i64 (i : Int)).wf = true := by
        simp [Lit.wf, IntKind.min, IntKind.max, IntKind.signed, IntKind.bits]
        omega
      cases hf : (rs.take i).any (· == row)
      · have hh : has D (.string row) = false := by rw [hhas]; exact hf
        go_wp2_with (first
          | refine wpList_load_row rfl 42 (.tmp 5) rfl g5 rfl 42 (cellsB row) (0, 0) _ HB5.out Tryd.underlying42 rfl (by rw [HSC.out]; kernel_rfl) ?_
          | (at_lookup; refine wpList_lookup_own_ok_int _ rfl _ _ 83 rfl 42 3 .i64 arr_keyed Tryd.underlying83 Tryd.underlying3 (Tryd.zeroValue3 _) w.heap.size i D rfl hown _ _ rfl hkey ?_; intro cv hat hwc; rw [hh])
          | (at_mapUpdate; refine wpList_mapUpdate_in _ rfl _ _ _ 83 rfl 42 3 arr_keyed Tryd.underlying83 (plainElem Tryd.prog 3) w.heap.size i D rfl hown (by unfold maxLen; omega) _ _ _ rfl rfl hkey _ [] (plainElem_int Tryd.underlying3 hwi) ?_; intro w6 hown6 hturn6))
        refine ⟨⟨i + 1, by first | rfl | simp, by omega, DState.put hb5 hown hsz hhas hlt (by rw [hrw.out]; exact hf) (by rw [hrw.out]; exact hown6) hturn6⟩, by simp [intOf]; omega⟩
      · have hh : has D (.string row) = true := by rw [hhas]; exact hf
        go_wp2_with (first
          | refine wpList_load_row rfl 42 (.tmp 5) rfl g5 rfl 42 (cellsB row) (0, 0) _ HB5.out Tryd.underlying42 rfl (by rw [HSC.out]; kernel_rfl) ?_
          | (at_lookup; refine wpList_lookup_own_ok_int _ rfl _ _ 83 rfl 42 3 .i64 arr_keyed Tryd.underlying83 Tryd.underlying3 (Tryd.zeroValue3 _) w.heap.size i D rfl hown _ _ rfl hkey ?_; intro cv hat hwc; rw [hh])
          | (at_mapUpdate; refine wpList_mapUpdate_in _ rfl _ _ _ 83 rfl 42 3 arr_keyed Tryd.underlying83 (plainElem Tryd.prog 3) w.heap.size i D rfl hown (by unfold maxLen; omega) _ _ _ rfl rfl hkey _ [] (plainElem_int Tryd.underlying3 hwi) ?_; intro w6 hown6 hturn6))
        refine ⟨⟨i + 1, by first | rfl | simp, by omega, HS5.out.found hlt (by rw [hrw.out]; exact hf)⟩, by simp [intOf]; omega⟩
    · have hil : ¬ ((i : Int) < (rs.length : Int)) := by omega
      obtain ⟨hb5, D, hown, hsz, hhas⟩ := HSi.out
      go_wp2_with (first
        | (at_len; refine wpList_len_own _ rfl _ 83 rfl 42 3 Tryd.underlying83 _ w.heap.size i D rfl hown ?_))
      go_ret
      obtain rfl : i = rs.length := by omega
      exact ⟨rfl, hb5⟩
set_option maxHeartbeats 4000000 in
set_option maxRecDepth 100000 in
theorem distinct_nil (A : Option Addr) (c : Nat) (w : World) :
    Calls Tryd.prog 23 #[.slice A 0 c] w fun e w' => e = .returned (.int .i64 0) ∧ Below w.heap.size w w' := by
  have HS := Lib.hid (DState.start [] w)
  have hmm := @run_makeMap Tryd.prog
  go_enter Tryd.func23, Tryd.ntmps23
  go_wp2_with fail
  go_loopw [11] (fun t11 wr => t11 = .int .i64 0 ∧ Hid (DState [] 0 w wr)) (fun t11 _ => 0)
  case atStart => exact ⟨rfl, HS⟩
  case round =>
    clear HS
    obtain ⟨rfl, HSi⟩ := hrel
    obtain ⟨hb5, D, hown, hsz, hhas⟩ := HSi.out
    go_wp2_with (first
      | (at_len; refine wpList_len_own _ rfl _ 83 rfl 42 3 Tryd.underlying83 _ w.heap.size 0 D rfl hown ?_))
    go_ret
    exact ⟨rfl, hb5⟩
end Go.Proofs.YtmaknbcfnigbmaaDoor
