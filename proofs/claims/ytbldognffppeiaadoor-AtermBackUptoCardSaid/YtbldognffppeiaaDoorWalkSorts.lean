/- AtermSorts, walked. -/
import Derived.Test.YtbldognffppeiaaDoorAtSortL
import Derived.Test.YtbldognffppeiaaDoorHeldM
namespace Go.Proofs.YtbldognffppeiaaDoor
open Go.RowKit
set_option linter.unusedSimpArgs false
set_option linter.unusedVariables false
set_option maxHeartbeats 4000000 in
set_option maxRecDepth 100000 in
/-- Put, where Right says an error. -/
theorem put_bad (d : Drv) (a : DrvA) (w : World) (h : DrvAt w d a) (er : Int) (he : rightE d = er) (hne : er ≠ 0) : Calls Tryd.prog 10 #[.agg (drvCells d a)] w fun e w' => e = .returned (.tuple #[.string ⟨#[]⟩, .int .i64 er]) ∧ Below w.heap.size w w' := by
  have hb1 := Lib.hid ((Below.refl w.heap.size w).alloc (Nat.le_refl _) (.cells (drvCells d a) 29))
  have HC := Lib.hid (right_any d a _ (h.below hb1.out))
  rw [he] at HC
  have hbk : Hid ((w.alloc (.cells (drvCells d a) 29)).heap[w.heap.size]? = some (.cells (drvCells d a) 29 (0, 0))) := heap_alloc_new w _
  have hsz : Hid ((drvCells d a).size = 7) := rfl
  have e0 : (er == 0) = false := by simpa using hne
  obtain ⟨cs, hcs⟩ : ∃ cs, Hid (cs = drvCells d a) := ⟨_, rfl⟩
  rw [← hcs.out] at hb1 HC hbk hsz ⊢
  clear h he
  go_enter Tryd.func10, Tryd.ntmps10
  go_upto_region 1 with (fail)
  go_upto_region 2 with (first
    | refine wpList_load_row rfl 29 (.tmp 1) rfl w.heap.size rfl 29 cs (0, 0) _ hbk.out Tryd.underlying29 rfl (by rw [hsz.out]; kernel_rfl) ?_
    | (go_at_call 12; refine HC.out.mono ?_; rintro e w1 ⟨rfl, hb⟩; have HB := Lib.hid (below_step' hb1.out hb); clear hb)
    | fail)
  go_wp2_with fail
  go_ret2
  exact ⟨rfl, HB.out⟩
/-- The derivation's cells with other sources. -/
def sortCells (d : Drv) (a : DrvA) (A : Option Addr) (n c : Nat) : Array Value := #[.slice a.A0 d.outs.length a.c0, .slice a.A1 d.ins.length a.c1, .slice A n c, .string d.sys, .string d.bld, .slice a.A5 d.args.length a.c5, .slice a.A6 d.env.length a.c6]
structure SortI (w1 : World) (d : Drv) (a : DrvA) (gp : Nat) (l : List ByteArray) (A : Option Addr) (n c : Nat) (W : World) : Prop where
  below : Below gp w1 W
  size : w1.heap.size = gp
  blk : Blk W gp 29 (sortCells d a A n c)
  len : n = l.length
  row : W.ownsRow (gp + 1) 9 1 (.slice A n c) n (l.map Value.string)
section
variable {w1 W W' : World} {d : Drv} {a : DrvA} {gp : Nat} {l l' : List ByteArray} {A A' : Option Addr} {n n' c c' : Nat}
theorem SortI.start (hw : DrvAt w1 d a) (hs : w1.heap.size = gp) {ws : World} (hb : Below gp w1 ws) (hk : Blk ws gp 29 (drvCells d a)) : SortI w1 d a gp [] none 0 0 (ws.setCell ⟨gp, 2, none⟩ (.slice none 0 0)) :=
  ⟨hb.setCell (p := ⟨gp, 2, none⟩) (Nat.le_refl _) _, hs, hk.set_ 2 _, rfl, World.ownsRow_nil _ _ _ _⟩
theorem SortI.grown (h : SortI w1 d a gp l A n c W) (hb : Below W.heap.size W W') : SortI w1 d a gp l A n c W' :=
  ⟨h.below.trans (hb.mono (Nat.le_of_lt h.blk.lt)), h.size, h.blk.below hb h.blk.lt, h.len, own_kept h.row hb⟩
theorem SortI.store (h : SortI w1 d a gp l A n c W) (hb : Below (gp + 1) W W') (hr : W'.ownsRow (gp + 1) 9 1 (.slice A' n' c') n' (l'.map Value.string)) (hl : n' = l'.length) : SortI w1 d a gp l' A' n' c' (W'.setCell ⟨gp, 2, none⟩ (.slice A' n' c')) :=
  ⟨(h.below.trans (hb.mono (Nat.le_succ _))).setCell (p := ⟨gp, 2, none⟩) (Nat.le_refl _) _, h.size, (h.blk.below hb (Nat.lt_succ_self _)).set_ 2 _, hl, own_set hr (Nat.lt_succ_self _) _⟩
theorem SortI.cell (h : SortI w1 d a gp l A n c W) : W.cell? ⟨gp, 2, none⟩ = some (.slice A n c) := h.blk.cell 2
theorem SortI.forms (h : SortI w1 d a gp l A n c W) : n ≤ c ∧ c ≤ maxLen ∧ (A = none → n = 0 ∧ c = 0) := by
  obtain ⟨A', c', e, q1, q2, q3, _⟩ := row_form h.row
  injection e with e1 e2 e3
  subst e1 e3
  exact ⟨q1, q2, q3⟩
theorem SortI.drvAt (h : SortI w1 d a gp l A n c W) (hw : DrvAt w1 d a) : DrvAt W (withS d l) { a with A2 := A, c2 := c } := by
  obtain ⟨q1, q2, q3⟩ := h.forms
  have hb : Below w1.heap.size w1 W := by rw [h.size]; exact h.below
  have h1 := hw.below hb
  have hl := h.len
  subst hl
  exact { h1 with srcs := owned_strs2 rfl h.row, l2 := q1, m2 := q2, z2 := q3 }
theorem SortI.cells (h : SortI w1 d a gp l A n c W) : sortCells d a A n c = drvCells (withS d l) { a with A2 := A, c2 := c } := by
  rw [h.len]; rfl
theorem SortI.right (h : SortI w1 d a gp l A n c W) (hw : DrvAt w1 d a) : Calls Tryd.prog 12 #[.agg (sortCells d a A n c)] W fun e w' => e = .returned (.int .i64 (rightE (withS d l))) ∧ Below W.heap.size W w' := by
  rw [h.cells]
  exact right_any _ _ _ (h.drvAt hw)
theorem SortI.put (h : SortI w1 d a gp l A n c W) (hw : DrvAt w1 d a) (he : rightE (withS d l) = 10) : Calls Tryd.prog 10 #[.agg (sortCells d a A n c)] W fun e w' => e = .returned (.tuple #[.string ⟨#[]⟩, .int .i64 10]) ∧ Below W.heap.size W w' := by
  rw [h.cells]
  exact put_bad _ _ _ (h.drvAt hw) 10 he (by decide)
theorem SortI.poke {g : Nat} (h : SortI w1 d a gp l (some ⟨g, 0, none⟩) n c W) (hn : 0 < n) (j : Nat) (s : ByteArray) : SortI w1 d a gp (l.set j s) (some ⟨g, 0, none⟩) n c (W.setCell ⟨g, j, none⟩ (.string s)) := by
  obtain ⟨g', cap, e, hg, _⟩ := h.row.form hn
  injection e with e1 e2 e3
  injection e1 with e1
  injection e1 with e1
  subst e1
  refine ⟨h.below.setCell (p := ⟨g, j, none⟩) (by show gp ≤ g; omega) _, h.size, h.blk.far (show gp ≠ g by omega) _, by rw [List.length_set]; exact h.len, ?_⟩
  rw [List.map_set]
  exact (h.row.stored j (.string s)).1
theorem SortI.el {g : Nat} (h : SortI w1 d a gp l (some ⟨g, 0, none⟩) n c W) {j : Nat} {s : ByteArray} (hj : l[j]? = some s) : W.cell? ⟨g, j, none⟩ = some (.string s) := by
  have hlt := (List.getElem?_eq_some_iff.1 hj).1
  exact (h.row.cellAt j (by have := h.len; omega)).trans (by rw [List.getElem?_map, hj]; rfl)
theorem SortI.elFrozen {g : Nat} (h : SortI w1 d a gp l (some ⟨g, 0, none⟩) n c W) (j : Nat) : W.frozen? ⟨g, j, none⟩ = false := h.row.frozenAt j
end
theorem i64_and7 (n : Int) : bits .and .i64 n 7 = n % 8 := by
  have h255 : (BitVec.ofInt 64 7).toNat = 2 ^ 3 - 1 := by decide
  have key : (BitVec.ofInt 64 n &&& BitVec.ofInt 64 7).toNat = (n % ((2 ^ 64 : Nat) : Int)).toNat % 2 ^ 3 := by
    rw [BitVec.toNat_and, BitVec.toNat_ofInt, h255, Nat.and_two_pow_sub_one_eq_mod]
  show IntKind.i64.wrap ((BitVec.ofInt 64 n &&& BitVec.ofInt 64 7).toNat : Nat) = n % 8
  rw [key, IntKind.wrap_i64]
  omega
theorem srcB_nat {i : Nat} (hi : i < 26) : ((srcB i).toNat : Int) = 97 + (i : Int) := by
  unfold srcB
  rw [UInt8.toNat_ofNat']
  omega
theorem sorts_below {w w1 W : World} {gp : Nat} (h : Below w.heap.size w w1) (hs : w1.heap.size = gp) (hb : Below gp w1 W) : Below w.heap.size w W := h.trans (hb.mono (by rw [← hs]; exact h.size))
theorem conv_one (W : World) (b : UInt8) (x : Int) (hx : x = (b.toNat : Int)) : (convert 41 9 (.slice (some ⟨W.heap.size, 0, none⟩) 1 1)).run Tryd.prog (W.alloc (.cells #[.int .u8 x] 5)) = .ok (.string ⟨[b].toArray⟩) (W.alloc (.cells #[.int .u8 x] 5)) := by
  refine run_convert_bytes_back _ 41 9 5 ⟨W.heap.size, 0, none⟩ 1 [b] Tryd.underlying41 Tryd.underlying5 Tryd.underlying9 (fun j hj => ?_)
  obtain rfl : j = 0 := by simp at hj; exact hj
  subst hx
  exact cell_one_new W (.int .u8 (b.toNat : Int)) 5 0 _ rfl
set_option maxHeartbeats 4000000 in
set_option maxRecDepth 100000 in
theorem sorts_any (d : Drv) (a : DrvA) (hfit : Fits d a) (k : Int) (w : World) (h : DrvAt w d a) : Calls Tryd.prog 5 #[.agg (drvCells d a), .int .i64 k] w fun e w' => e = .returned (.bool true) ∧ Below w.heap.size w w' := by
  have hb1 := Lib.hid ((Below.refl w.heap.size w).alloc (Nat.le_refl _) (.cells (drvCells d a) 29))
  have hbk : Hid ((w.alloc (.cells (drvCells d a) 29)).heap[w.heap.size]? = some (.cells (drvCells d a) 29 (0, 0))) := heap_alloc_new w _
  have hsz : Hid ((drvCells d a).size = 7) := rfl
  have HC := Lib.hid (own_any d a hfit _ (h.below hb1.out))
  obtain ⟨q, hq⟩ : ∃ q : Nat, Hid (k % 8 = (q : Int)) := ⟨(k % 8).toNat, by show k % 8 = _; omega⟩
  have hq2 : q < 8 := by have := hq.out; omega
  have hand : bits .and .i64 k 7 = (q : Int) := (i64_and7 k).trans hq.out
  obtain ⟨cs, hcs⟩ : ∃ cs, Hid (cs = drvCells d a) := ⟨_, rfl⟩
  rw [← hcs.out] at hb1 HC hbk hsz ⊢
  clear h hfit hq
  go_enter Tryd.func5, Tryd.ntmps5
  go_upto_region 1 with (fail)
  go_upto_region 2 with (first
    | refine wpList_load_row rfl 29 (.tmp 2) rfl w.heap.size rfl 29 cs (0, 0) _ hbk.out Tryd.underlying29 rfl (by rw [hsz.out]; kernel_rfl) ?_
    | (go_at_call 9; refine HC.out.mono ?_; rintro e w1 ⟨⟨a', rfl, hD⟩, hb⟩; have HD := Lib.hid hD; have HBW := Lib.hid (below_step' hb1.out hb); clear hb hD)
    | refine wpList_store_row rfl 29 (.tmp 5) (.tmp 11) rfl w1.heap.size (drvCells d a') rfl rfl 29 _ (heap_alloc_new w1 _) (by kernel_rfl) rfl (by simp [drvCells, Value.oneCell']) ?_
    | fail)
  have HB : Hid (Below w1.heap.size w1 ((w1.alloc (.cells #[.slice none 0 0, .slice none 0 0, .slice none 0 0, .string ⟨#[]⟩, .string ⟨#[]⟩, .slice none 0 0, .slice none 0 0] 29)).setRow w1.heap.size (drvCells d a'))) := below_setRow ((Below.refl _ _).alloc (Nat.le_refl _) _) (Nat.le_refl _) _
  have HK : Hid (Blk ((w1.alloc (.cells #[.slice none 0 0, .slice none 0 0, .slice none 0 0, .string ⟨#[]⟩, .string ⟨#[]⟩, .slice none 0 0, .slice none 0 0] 29)).setRow w1.heap.size (drvCells d a')) w1.heap.size 29 (drvCells d a')) := Blk.row (Blk.new w1 29 _) _
  obtain ⟨gp, hgp⟩ : ∃ gp, Hid (w1.heap.size = gp) := ⟨_, rfl⟩
  rw [hgp.out] at HB HK ⊢
  generalize (w1.alloc (.cells #[.slice none 0 0, .slice none 0 0, .slice none 0 0, .string ⟨#[]⟩, .string ⟨#[]⟩, .slice none 0 0, .slice none 0 0] 29)).setRow gp (drvCells d a') = ws at *
  obtain ⟨n2, hn2⟩ : ∃ n, Hid (n = d.srcs.length) := ⟨_, rfl⟩
  have b2 : n2 ≤ 9223372036854775807 := by have := HD.out.l2; have := HD.out.m2; unfold maxLen at this; have := hn2.out; omega
  have p2 : ws.cell? ⟨gp, 2, none⟩ = some (.slice a'.A2 n2 a'.c2) := by rw [hn2.out]; exact HK.out.cell 2
  have hsz' : Hid ((drvCells d a').size = 7) := rfl
  have HR : Hid (Calls Tryd.prog 12 #[.agg (drvCells d a')] ws fun e w' => e = .returned (.int .i64 (rightE d)) ∧ Below ws.heap.size ws w') := right_any d a' ws (HD.out.below (by rw [hgp.out]; exact HB.out))
  clear hb1 HC hbk hsz hcs
  by_cases hbig : 1000 < n2
  · have c1 : (1000 : Int) < (n2 : Int) := by omega
    clear HR
    go_wp2_with fail
    go_ret
    exact ⟨rfl, sorts_below HBW.out hgp.out HB.out⟩
  · have c1 : ¬ (1000 : Int) < (n2 : Int) := by omega
    obtain ⟨cs', hcs'⟩ : ∃ cs, Hid (cs = drvCells d a') := ⟨_, rfl⟩
    by_cases hr0 : rightE d = 0
    · have hok := Lib.hid hr0
      rw [hr0] at HR
      have p0 : ws.cell? ⟨gp, 0, none⟩ = some (.slice a'.A0 d.outs.length a'.c0) := HK.out.cell 0
      have p1 : ws.cell? ⟨gp, 1, none⟩ = some (.slice a'.A1 d.ins.length a'.c1) := HK.out.cell 1
      have p3 : ws.cell? ⟨gp, 3, none⟩ = some (.string d.sys) := HK.out.cell 3
      have p4 : ws.cell? ⟨gp, 4, none⟩ = some (.string d.bld) := HK.out.cell 4
      have p5 : ws.cell? ⟨gp, 5, none⟩ = some (.slice a'.A5 d.args.length a'.c5) := HK.out.cell 5
      have p6 : ws.cell? ⟨gp, 6, none⟩ = some (.slice a'.A6 d.env.length a'.c6) := HK.out.cell 6
      unfold drvCells at HR
      rw [← hn2.out] at HR
      go_upto_region 2 with (fail)
      go_upto_region 4 with (first
        | (go_at_call 12; refine HR.out.mono ?_; rintro e w2 ⟨rfl, hb⟩; have HB2 := Lib.hid hb; clear hb)
        | fail)
      have HK2 := Lib.hid (HK.out.below HB2.out HK.out.lt)
      have HL := Lib.hid HK.out.lt
      clear p0 p1 p2 p3 p4 p5 p6 HR HK
      have p2 : w2.cell? ⟨gp, 2, none⟩ = some (.slice a'.A2 n2 a'.c2) := by rw [hn2.out]; exact HK2.out.cell 2
      have p3 : w2.frozen? ⟨gp, 2, none⟩ = false := HK2.out.frozen 2
      have HI := Lib.hid (SortI.start HD.out hgp.out (HB.out.trans (HB2.out.mono (Nat.le_of_lt HL.out))) HK2.out)
      go_upto_region 5 with (fail)
      clear p2 p3 HK2 HB2 HB
      generalize w2.setCell ⟨gp, 2, none⟩ (.slice none 0 0) = W0 at *
      go_wp2_with fail
      clear c1 b2
      obtain ⟨i9, hi0, hz0, hz1, hz2⟩ := info_parts info9'
      have Z9 := Lib.hid hz0
      have S9 := Lib.hid hz1
      have Y9 := Lib.hid hz2
      have I9 := Lib.hid hi0
      clear hi0 hz0 hz1 hz2
      go_loopw [6] (fun t6 wr => ∃ (i : Nat) (A : Option Addr) (c : Nat), t6 = .int .i64 i ∧ i ≤ 2 + q ∧ Hid (SortI w1 d a' gp (srcL i) A i c wr)) (fun t6 _ => 2 + q - (intOf t6).toNat)
      case atStart => exact ⟨0, none, 0, rfl, by omega, HI⟩
      case round =>
        clear HI
        obtain ⟨i, A, c, rfl, hi, HI⟩ := hrel
        by_cases hlt : i < 2 + q
        · have d1 : (i : Int) < 2 + (q : Int) := by omega
          have x2 : wr.cell? ⟨gp, 2, none⟩ = some (.slice A i c) := HI.out.cell
          have hcv := conv_one wr (srcB i) (97 + (i : Int)) (srcB_nat (by omega)).symm
          have x3 : ∀ W, Below (gp + 1) wr W → W.frozen? ⟨gp, 2, none⟩ = false := fun W hW => (HI.out.blk.below hW (Nat.lt_succ_self _)).frozen 2
          have hl1 := HI.out.blk.lt
          have hN : Hid (∀ ad, some (⟨wr.heap.size + 1, 0, none⟩ : Addr) = some ad → ∀ j u, [Value.string (srcS i)][j]? = some u → ((wr.alloc (.cells #[.int .u8 (97 + (i : Int))] 5)).alloc (.cells #[.string ((⟨#[115]⟩ : ByteArray) ++ (⟨#[srcB i]⟩ : ByteArray))] 9)).cell? (ad.add j) = some u) := fun ad h => by
            cases h
            have h := cell_one_new (wr.alloc (.cells #[.int .u8 (97 + (i : Int))] 5)) (.string (srcS i)) 9
            rw [World.size_alloc] at h
            exact h
          have hS : Hid (gp + 1 ≤ ((wr.alloc (.cells #[.int .u8 (97 + (i : Int))] 5)).alloc (.cells #[.string ((⟨#[115]⟩ : ByteArray) ++ (⟨#[srcB i]⟩ : ByteArray))] 9)).heap.size) := by
            show gp + 1 ≤ _
            rw [World.size_alloc, World.size_alloc]; omega
          have hB5 : Hid (Below (gp + 1) wr ((wr.alloc (.cells #[.int .u8 (97 + (i : Int))] 5)).alloc (.cells #[.string ((⟨#[115]⟩ : ByteArray) ++ (⟨#[srcB i]⟩ : ByteArray))] 9))) := ((Below.refl _ wr).alloc hl1 _).alloc (by rw [World.size_alloc]; omega) _
          have hRow := Lib.hid ((HI.out.row.alloc (.cells #[.int .u8 (97 + (i : Int))] 5)).alloc (.cells #[.string ((⟨#[115]⟩ : ByteArray) ++ (⟨#[srcB i]⟩ : ByteArray))] 9))
          go_upto_region 8 with (fail)
          go_upto_region 7 with (first
            | (at_builtin; refine append_any rfl (.tmp 30) (.tmp 37) 26 rfl (gp + 1) 9 i9 (.string ⟨#[]⟩) 16 Tryd.underlying26 I9.out Z9.out S9.out Y9.out rfl _ i ((srcL i).map Value.string) rfl hRow.out (some ⟨wr.heap.size + 1, 0, none⟩) 1 1 [.string (srcS i)] rfl rfl (fun h => by cases h) hN.out (one_str _) (by unfold maxLen; omega) (by omega) hS.out ?_; intro v5 w5 hown5 hb5; rw [← List.map_singleton (f := Value.string), ← List.map_append, ← srcL_succ] at hown5; obtain ⟨A5, c5, rfl, hc5, hm5, hz5, HO5⟩ := row_form hown5; have HB5 : Hid (Below (gp + 1) wr w5) := hB5.out.trans hb5; have y2 := ((HI.out.blk.below HB5.out (Nat.lt_succ_self _)).cell 2).trans (show (sortCells d a' A i c)[2]? = some (.slice A i c) from rfl); have y3 := x3 w5 HB5.out; clear hown5 hb5 x2 x3)
            | fail)
          have HI2 := Lib.hid (HI.out.store HB5.out (own_weaken HO5 (Nat.le_refl _)) (by rw [srcL_length]))
          clear y2 y3 hN hS hB5 hRow
          generalize w5.setCell ⟨gp, 2, none⟩ (.slice A5 (i + 1) c5) = W5 at *
          go_wp2_with fail
          refine ⟨⟨i + 1, A5, c5, by first | rfl | simp, by omega, HI2⟩, by simp [intOf]; omega⟩
        · obtain rfl : i = 2 + q := by omega
          obtain ⟨m, hm⟩ : ∃ m : Nat, Hid (2 + q = m) := ⟨_, rfl⟩
          have hm2 := hm.out
          rw [hm.out] at HI
          rw [show (2 + q) = m from hm.out]
          have d1 : ¬ (m : Int) < 2 + (q : Int) := by omega
          have hm0 : 2 ≤ m := by omega
          have hm26 : m < 26 := by omega
          have hR9 : Hid (rightE (withS d (srcL m)) = 0) := by
            show _ = _
            rw [rightE_with hok.out _ (by rw [srcL_length]; omega), rises_srcL m hm26]; rfl
          have HC9 := Lib.hid (HI.out.right HD.out)
          rw [hR9.out] at HC9
          have hbk := Lib.hid HI.out.blk
          obtain ⟨cs1, hcs1⟩ : ∃ cs, Hid (cs = sortCells d a' A m c) := ⟨_, rfl⟩
          have hz1 : Hid (cs1.size = 7) := by rw [hcs1.out]; rfl
          rw [← hcs1.out] at hbk HC9
          clear hr0 hq2
          go_upto_region 9 with (fail)
          go_upto_region 11 with (first
            | refine wpList_load_row rfl 29 (.tmp 5) rfl gp rfl 29 cs1 (0, 0) _ hbk.out Tryd.underlying29 rfl (by rw [hz1.out]; kernel_rfl) ?_
            | (go_at_call 12; refine HC9.out.mono ?_; rintro e w3 ⟨rfl, hb⟩; have HI3 := Lib.hid (HI.out.grown hb); clear hb)
            | fail)
          clear hbk HC9 HI
          obtain ⟨g, eA⟩ : ∃ g, A = some ⟨g, 0, none⟩ := by
            obtain ⟨g, cap, e, _, _⟩ := HI3.out.row.form (by omega)
            injection e with e1 _ _
            exact ⟨g, e1⟩
          subst eA
          have hc1 := Lib.hid HI3.out.forms
          have x2 : w3.cell? ⟨gp, 2, none⟩ = some (.slice (some ⟨g, 0, none⟩) m c) := HI3.out.cell
          obtain ⟨p1, hp1⟩ : ∃ p : Nat, Hid (p = m - 1) := ⟨_, rfl⟩
          obtain ⟨p2, hp2⟩ : ∃ p : Nat, Hid (p = m - 2) := ⟨_, rfl⟩
          have f1 : (m : Int) - 1 = (p1 : Int) := by have := hp1.out; omega
          have f2 : (m : Int) - 2 = (p2 : Int) := by have := hp2.out; omega
          have f3 : (p1 : Int) < (m : Int) := by omega
          have f4 : (p2 : Int) < (m : Int) := by omega
          have f5 : IntKind.i64.wrap (p1 : Int) = (p1 : Int) := by rw [IntKind.wrap_i64]; omega
          have f6 : IntKind.i64.wrap (p2 : Int) = (p2 : Int) := by rw [IntKind.wrap_i64]; omega
          have HI3d : SortI w1 d a' gp (srcL m) (some ⟨g, 0, none⟩) m c w3.drew := HI3.out.grown (below_drewN' (Below.refl _ _) 1)
          have HI4 := HI3d.poke (by omega) p1 (srcS p2)
          have HI5 := HI4.poke (by omega) p2 (srcS p1)
          have z1 : w3.drew.cell? ⟨g, p1, none⟩ = some (.string (srcS p1)) := HI3d.el (srcL_at (by omega))
          have z2 : w3.drew.frozen? ⟨g, p1, none⟩ = false := HI3d.elFrozen _
          have z3 : (w3.drew.setCell ⟨g, p1, none⟩ (.string (srcS p2))).cell? ⟨g, p2, none⟩ = some (.string (srcS p2)) := HI4.el (by rw [List.getElem?_set_ne (by have := hp1.out; have := hp2.out; omega)]; exact srcL_at (by omega))
          have z4 : (w3.drew.setCell ⟨g, p1, none⟩ (.string (srcS p2))).frozen? ⟨g, p2, none⟩ = false := HI4.elFrozen _
          have z5 : w3.drew.cell? ⟨gp, 2, none⟩ = some (.slice (some ⟨g, 0, none⟩) m c) := HI3d.cell
          have z6 : (w3.drew.setCell ⟨g, p1, none⟩ (.string (srcS p2))).cell? ⟨gp, 2, none⟩ = some (.slice (some ⟨g, 0, none⟩) m c) := HI4.cell
          have z7 : (((w3.drew.setCell ⟨g, p1, none⟩ (.string (srcS p2)))).setCell ⟨g, p2, none⟩ (.string (srcS p1))).cell? ⟨gp, 2, none⟩ = some (.slice (some ⟨g, 0, none⟩) m c) := HI5.cell
          have z8 : w3.drew.cell? ⟨g, p2, none⟩ = some (.string (srcS p2)) := HI3d.el (srcL_at (by omega))
          have z9 : w3.cell? ⟨g, p2, none⟩ = some (.string (srcS p2)) := z8
          have z10 : w3.frozen? ⟨g, p2, none⟩ = false := HI3d.elFrozen _
          have HI6 := Lib.hid HI5
          clear HI3d HI4 HI5
          go_upto_region 12 with (fail)
          refine Lefts.region (fun W => W.cell? ⟨gp, 2, none⟩ = some (.slice (some ⟨g, 0, none⟩) m c)) (fun W => W.cell? ⟨gp, 2, none⟩ = some (.slice (some ⟨g, 0, none⟩) m c) ∧ W.cell? ⟨g, p2, none⟩ = some (.string (srcS p2)) ∧ W.cell? ⟨g, p1, none⟩ = some (.string (srcS p1))) [4, 5, 6, 7, 14, 15, 16, 17, 18, 20, 21, 22, 23] (by kernel_rfl) z5 ⟨z5, z8, z1⟩ (fun hS1 hS => ?_)
          refine Lefts.takeA (i := 4) (u := .pointer (some ⟨gp, 2, none⟩)) rfl (by kernel_rfl) (by kernel_rfl) (by kernel_rfl) (by kernel_rfl) (fun _ _ _ h => h) (by assumption) (Or.inl ⟨by rfl, fun W hSW => by have y1 : W.cell? ⟨gp, 2, none⟩ = some (.slice (some ⟨g, 0, none⟩) m c) := hSW; go_simp⟩) ?_
          simp only [Act.put, List.setIfInBounds_toArray, List.set_cons_zero, List.set_cons_succ]
          refine Lefts.takeA (i := 5) (u := .slice (some ⟨g, 0, none⟩) m c) rfl (by kernel_rfl) (by kernel_rfl) (by kernel_rfl) (by kernel_rfl) (fun _ _ _ h => h) (by assumption) (Or.inl ⟨by rfl, fun W hSW => by have y1 : W.cell? ⟨gp, 2, none⟩ = some (.slice (some ⟨g, 0, none⟩) m c) := hSW; go_simp⟩) ?_
          simp only [Act.put, List.setIfInBounds_toArray, List.set_cons_zero, List.set_cons_succ]
          refine Lefts.takeA (i := 6) (u := .int .i64 m) rfl (by kernel_rfl) (by kernel_rfl) (by kernel_rfl) (by kernel_rfl) (fun _ _ _ h => h) (by assumption) (Or.inl ⟨by rfl, fun W hSW => by have y1 : W.cell? ⟨gp, 2, none⟩ = some (.slice (some ⟨g, 0, none⟩) m c) := hSW; go_simp⟩) ?_
          simp only [Act.put, List.setIfInBounds_toArray, List.set_cons_zero, List.set_cons_succ]
          refine Lefts.takeA (i := 7) (u := .int .i64 p2) rfl (by kernel_rfl) (by kernel_rfl) (by kernel_rfl) (by kernel_rfl) (fun _ _ _ h => h) (by assumption) (Or.inl ⟨by rfl, fun W hSW => by have y1 : W.cell? ⟨gp, 2, none⟩ = some (.slice (some ⟨g, 0, none⟩) m c) := hSW; go_simp⟩) ?_
          simp only [Act.put, List.setIfInBounds_toArray, List.set_cons_zero, List.set_cons_succ]
          refine Lefts.takeA (i := 14) (u := .pointer (some ⟨gp, 2, none⟩)) rfl (by kernel_rfl) (by kernel_rfl) (by kernel_rfl) (by kernel_rfl) (fun _ _ _ h => h) (by assumption) (Or.inl ⟨by rfl, fun W hSW => by have y1 : W.cell? ⟨gp, 2, none⟩ = some (.slice (some ⟨g, 0, none⟩) m c) := hSW; go_simp⟩) ?_
          simp only [Act.put, List.setIfInBounds_toArray, List.set_cons_zero, List.set_cons_succ]
          refine Lefts.takeA (i := 15) (u := .slice (some ⟨g, 0, none⟩) m c) rfl (by kernel_rfl) (by kernel_rfl) (by kernel_rfl) (by kernel_rfl) (fun _ _ _ h => h) (by assumption) (Or.inl ⟨by rfl, fun W hSW => by have y1 : W.cell? ⟨gp, 2, none⟩ = some (.slice (some ⟨g, 0, none⟩) m c) := hSW; go_simp⟩) ?_
          simp only [Act.put, List.setIfInBounds_toArray, List.set_cons_zero, List.set_cons_succ]
          refine Lefts.takeA (i := 16) (u := .int .i64 m) rfl (by kernel_rfl) (by kernel_rfl) (by kernel_rfl) (by kernel_rfl) (fun _ _ _ h => h) (by assumption) (Or.inl ⟨by rfl, fun W hSW => by have y1 : W.cell? ⟨gp, 2, none⟩ = some (.slice (some ⟨g, 0, none⟩) m c) := hSW; go_simp⟩) ?_
          simp only [Act.put, List.setIfInBounds_toArray, List.set_cons_zero, List.set_cons_succ]
          refine Lefts.takeA (i := 17) (u := .int .i64 p1) rfl (by kernel_rfl) (by kernel_rfl) (by kernel_rfl) (by kernel_rfl) (fun _ _ _ h => h) (by assumption) (Or.inl ⟨by rfl, fun W hSW => by have y1 : W.cell? ⟨gp, 2, none⟩ = some (.slice (some ⟨g, 0, none⟩) m c) := hSW; go_simp⟩) ?_
          simp only [Act.put, List.setIfInBounds_toArray, List.set_cons_zero, List.set_cons_succ]
          refine Lefts.takeA (i := 18) (u := .pointer (some ⟨g, p1, none⟩)) rfl (by kernel_rfl) (by kernel_rfl) (by kernel_rfl) (by kernel_rfl) (fun _ _ _ h => h) (by assumption) (Or.inl ⟨by rfl, fun W hSW => by have y1 : W.cell? ⟨gp, 2, none⟩ = some (.slice (some ⟨g, 0, none⟩) m c) := hSW; go_simp⟩) ?_
          simp only [Act.put, List.setIfInBounds_toArray, List.set_cons_zero, List.set_cons_succ]
          refine Lefts.takeB (i := 0) (u := .pointer (some ⟨gp, 2, none⟩)) rfl (by kernel_rfl) (by kernel_rfl) (by kernel_rfl) (by kernel_rfl) (fun _ _ _ h => h) (by assumption) (by assumption) (Or.inl ⟨by rfl, fun W hSW => by obtain ⟨y1, y2, y3⟩ := hSW; go_simp⟩) ?_
          simp only [Act.put, List.setIfInBounds_toArray, List.set_cons_zero, List.set_cons_succ]
          refine Lefts.takeB (i := 1) (u := .slice (some ⟨g, 0, none⟩) m c) rfl (by kernel_rfl) (by kernel_rfl) (by kernel_rfl) (by kernel_rfl) (fun _ _ _ h => h) (by assumption) (by assumption) (Or.inl ⟨by rfl, fun W hSW => by obtain ⟨y1, y2, y3⟩ := hSW; go_simp⟩) ?_
          simp only [Act.put, List.setIfInBounds_toArray, List.set_cons_zero, List.set_cons_succ]
          refine Lefts.takeB (i := 2) (u := .int .i64 m) rfl (by kernel_rfl) (by kernel_rfl) (by kernel_rfl) (by kernel_rfl) (fun _ _ _ h => h) (by assumption) (by assumption) (Or.inl ⟨by rfl, fun W hSW => by obtain ⟨y1, y2, y3⟩ := hSW; go_simp⟩) ?_
          simp only [Act.put, List.setIfInBounds_toArray, List.set_cons_zero, List.set_cons_succ]
          refine Lefts.takeB (i := 3) (u := .int .i64 p1) rfl (by kernel_rfl) (by kernel_rfl) (by kernel_rfl) (by kernel_rfl) (fun _ _ _ h => h) (by assumption) (by assumption) (Or.inl ⟨by rfl, fun W hSW => by obtain ⟨y1, y2, y3⟩ := hSW; go_simp⟩) ?_
          simp only [Act.put, List.setIfInBounds_toArray, List.set_cons_zero, List.set_cons_succ]
          refine Lefts.takeB (i := 8) (u := .pointer (some ⟨gp, 2, none⟩)) rfl (by kernel_rfl) (by kernel_rfl) (by kernel_rfl) (by kernel_rfl) (fun _ _ _ h => h) (by assumption) (by assumption) (Or.inl ⟨by rfl, fun W hSW => by obtain ⟨y1, y2, y3⟩ := hSW; go_simp⟩) ?_
          simp only [Act.put, List.setIfInBounds_toArray, List.set_cons_zero, List.set_cons_succ]
          refine Lefts.takeB (i := 9) (u := .slice (some ⟨g, 0, none⟩) m c) rfl (by kernel_rfl) (by kernel_rfl) (by kernel_rfl) (by kernel_rfl) (fun _ _ _ h => h) (by assumption) (by assumption) (Or.inl ⟨by rfl, fun W hSW => by obtain ⟨y1, y2, y3⟩ := hSW; go_simp⟩) ?_
          simp only [Act.put, List.setIfInBounds_toArray, List.set_cons_zero, List.set_cons_succ]
          refine Lefts.takeB (i := 10) (u := .int .i64 m) rfl (by kernel_rfl) (by kernel_rfl) (by kernel_rfl) (by kernel_rfl) (fun _ _ _ h => h) (by assumption) (by assumption) (Or.inl ⟨by rfl, fun W hSW => by obtain ⟨y1, y2, y3⟩ := hSW; go_simp⟩) ?_
          simp only [Act.put, List.setIfInBounds_toArray, List.set_cons_zero, List.set_cons_succ]
          refine Lefts.takeB (i := 11) (u := .int .i64 p2) rfl (by kernel_rfl) (by kernel_rfl) (by kernel_rfl) (by kernel_rfl) (fun _ _ _ h => h) (by assumption) (by assumption) (Or.inl ⟨by rfl, fun W hSW => by obtain ⟨y1, y2, y3⟩ := hSW; go_simp⟩) ?_
          simp only [Act.put, List.setIfInBounds_toArray, List.set_cons_zero, List.set_cons_succ]
          refine Lefts.takeB (i := 12) (u := .pointer (some ⟨g, p2, none⟩)) rfl (by kernel_rfl) (by kernel_rfl) (by kernel_rfl) (by kernel_rfl) (fun _ _ _ h => h) (by assumption) (by assumption) (Or.inl ⟨by rfl, fun W hSW => by obtain ⟨y1, y2, y3⟩ := hSW; go_simp⟩) ?_
          simp only [Act.put, List.setIfInBounds_toArray, List.set_cons_zero, List.set_cons_succ]
          refine Lefts.takeB (i := 13) (u := .string (srcS p2)) rfl (by kernel_rfl) (by kernel_rfl) (by kernel_rfl) (by kernel_rfl) (fun _ _ _ h => h) (by assumption) (by assumption) (Or.inl ⟨by rfl, fun W hSW => by obtain ⟨y1, y2, y3⟩ := hSW; go_simp⟩) ?_
          simp only [Act.put, List.setIfInBounds_toArray, List.set_cons_zero, List.set_cons_succ]
          refine Lefts.takeB (i := 19) (u := .string (srcS p1)) rfl (by kernel_rfl) (by kernel_rfl) (by kernel_rfl) (by kernel_rfl) (fun _ _ _ h => h) (by assumption) (by assumption) (Or.inl ⟨by rfl, fun W hSW => by obtain ⟨y1, y2, y3⟩ := hSW; go_simp⟩) ?_
          simp only [Act.put, List.setIfInBounds_toArray, List.set_cons_zero, List.set_cons_succ]
          refine Lefts.takeA (i := 20) (u := .pointer (some ⟨g, p1, none⟩)) rfl (by kernel_rfl) (by kernel_rfl) (by kernel_rfl) (by kernel_rfl) (fun _ _ _ h => h) (by assumption) (Or.inl ⟨by rfl, fun W hSW => by have y1 : W.cell? ⟨gp, 2, none⟩ = some (.slice (some ⟨g, 0, none⟩) m c) := hSW; go_simp⟩) ?_
          simp only [Act.put, List.setIfInBounds_toArray, List.set_cons_zero, List.set_cons_succ]
          refine Lefts.one (i := 21) (by kernel_rfl) rfl (fun K hK => ?_)
          go_simp
          refine hK.out _ _ ⟨z6, fun h => by cases h⟩ ?_
          clear hK K hS
          try simp only [Act.put, List.setIfInBounds_toArray, List.set_cons_zero, List.set_cons_succ]
          have hS3 := z6
          refine Lefts.takeA (i := 22) (u := .pointer (some ⟨g, p2, none⟩)) rfl (by kernel_rfl) (by kernel_rfl) (by kernel_rfl) (by kernel_rfl) (fun _ _ _ h => h) z6 (Or.inl ⟨by rfl, fun W hSW => by have y1 : W.cell? ⟨gp, 2, none⟩ = some (.slice (some ⟨g, 0, none⟩) m c) := hSW; go_simp⟩) ?_
          simp only [Act.put, List.setIfInBounds_toArray, List.set_cons_zero, List.set_cons_succ]
          refine Lefts.one (i := 23) (by kernel_rfl) rfl (fun K hK => ?_)
          go_simp
          refine hK.out _ _ ⟨z7, fun h => by cases h⟩ ?_
          clear hK K
          refine Lefts.done (by kernel_rfl) ?_ _
          have HI7 : Hid (SortI w1 d a' gp (swapL m) (some ⟨g, 0, none⟩) m c ((w3.setCell ⟨g, p1, none⟩ (.string (srcS p2))).setCell ⟨g, p2, none⟩ (.string (srcS p1))).drew) := by
            have h := HI6.out
            unfold swapL
            rw [hp1.out, hp2.out] at h
            rw [hp1.out, hp2.out]
            exact h
          clear HI6 z1 z2 z3 z4 z5 z6 z7 z8 z9 z10 hS1 hS3 x2 HI3
          generalize ((w3.setCell ⟨g, p1, none⟩ (.string (srcS p2))).setCell ⟨g, p2, none⟩ (.string (srcS p1))).drew = W4 at *
          have hR13 : Hid (rightE (withS d (swapL m)) = 10) := by
            show _ = _
            rw [rightE_with hok.out _ (by rw [swapL_length]; omega), rises_swapL hm0 hm26]; rfl
          have HC13 := Lib.hid (HI7.out.right HD.out)
          rw [hR13.out] at HC13
          have hbk := Lib.hid HI7.out.blk
          obtain ⟨cs2, hcs2⟩ : ∃ cs, Hid (cs = sortCells d a' (some ⟨g, 0, none⟩) m c) := ⟨_, rfl⟩
          have hz2 : Hid (cs2.size = 7) := by rw [hcs2.out]; rfl
          rw [← hcs2.out] at hbk HC13
          go_upto_region 13 with (fail)
          go_upto_region 15 with (first
            | refine wpList_load_row rfl 29 (.tmp 5) rfl gp rfl 29 cs2 (0, 0) _ hbk.out Tryd.underlying29 rfl (by rw [hz2.out]; kernel_rfl) ?_
            | (go_at_call 12; refine HC13.out.mono ?_; rintro e w5 ⟨rfl, hb⟩; have HI8 := Lib.hid (HI7.out.grown hb); clear hb)
            | fail)
          clear hbk HC13 HI7
          have HI8d : SortI w1 d a' gp (swapL m) (some ⟨g, 0, none⟩) m c w5.drew := HI8.out.grown (below_drewN' (Below.refl _ _) 1)
          have HI9 := HI8d.poke (by omega) p1 (srcS p1)
          have z1 : w5.drew.cell? ⟨g, p1, none⟩ = some (.string (srcS p2)) := HI8d.el (by rw [hp1.out, hp2.out]; exact swapL_last hm0)
          have z2 : w5.drew.frozen? ⟨g, p1, none⟩ = false := HI8d.elFrozen _
          have z3 : w5.drew.cell? ⟨g, p2, none⟩ = some (.string (srcS p1)) := HI8d.el (by rw [hp1.out, hp2.out]; exact swapL_prev hm0)
          have z5 : w5.drew.cell? ⟨gp, 2, none⟩ = some (.slice (some ⟨g, 0, none⟩) m c) := HI8d.cell
          have z6 : (w5.drew.setCell ⟨g, p1, none⟩ (.string (srcS p1))).cell? ⟨gp, 2, none⟩ = some (.slice (some ⟨g, 0, none⟩) m c) := HI9.cell
          have z7 : w5.cell? ⟨g, p1, none⟩ = some (.string (srcS p2)) := z1
          have z8 : w5.frozen? ⟨g, p1, none⟩ = false := z2
          have HI10 := Lib.hid HI9
          clear HI8d HI9
          go_upto_region 15 with (fail)
          refine Lefts.region (fun W => W.cell? ⟨gp, 2, none⟩ = some (.slice (some ⟨g, 0, none⟩) m c)) (fun W => W.cell? ⟨gp, 2, none⟩ = some (.slice (some ⟨g, 0, none⟩) m c) ∧ W.cell? ⟨g, p2, none⟩ = some (.string (srcS p1)) ∧ W.cell? ⟨g, p1, none⟩ = some (.string (srcS p2))) [11] (by kernel_rfl) z5 ⟨z5, z3, z1⟩ (fun hS1 hS => ?_)
          refine Lefts.takeB (i := 0) (u := .pointer (some ⟨gp, 2, none⟩)) rfl (by kernel_rfl) (by kernel_rfl) (by kernel_rfl) (by kernel_rfl) (fun _ _ _ h => h) (by assumption) (by assumption) (Or.inl ⟨by rfl, fun W hSW => by obtain ⟨y1, y2, y3⟩ := hSW; go_simp⟩) ?_
          simp only [Act.put, List.setIfInBounds_toArray, List.set_cons_zero, List.set_cons_succ]
          refine Lefts.takeB (i := 1) (u := .slice (some ⟨g, 0, none⟩) m c) rfl (by kernel_rfl) (by kernel_rfl) (by kernel_rfl) (by kernel_rfl) (fun _ _ _ h => h) (by assumption) (by assumption) (Or.inl ⟨by rfl, fun W hSW => by obtain ⟨y1, y2, y3⟩ := hSW; go_simp⟩) ?_
          simp only [Act.put, List.setIfInBounds_toArray, List.set_cons_zero, List.set_cons_succ]
          refine Lefts.takeB (i := 2) (u := .int .i64 m) rfl (by kernel_rfl) (by kernel_rfl) (by kernel_rfl) (by kernel_rfl) (fun _ _ _ h => h) (by assumption) (by assumption) (Or.inl ⟨by rfl, fun W hSW => by obtain ⟨y1, y2, y3⟩ := hSW; go_simp⟩) ?_
          simp only [Act.put, List.setIfInBounds_toArray, List.set_cons_zero, List.set_cons_succ]
          refine Lefts.takeB (i := 3) (u := .int .i64 p1) rfl (by kernel_rfl) (by kernel_rfl) (by kernel_rfl) (by kernel_rfl) (fun _ _ _ h => h) (by assumption) (by assumption) (Or.inl ⟨by rfl, fun W hSW => by obtain ⟨y1, y2, y3⟩ := hSW; go_simp⟩) ?_
          simp only [Act.put, List.setIfInBounds_toArray, List.set_cons_zero, List.set_cons_succ]
          refine Lefts.takeB (i := 4) (u := .pointer (some ⟨gp, 2, none⟩)) rfl (by kernel_rfl) (by kernel_rfl) (by kernel_rfl) (by kernel_rfl) (fun _ _ _ h => h) (by assumption) (by assumption) (Or.inl ⟨by rfl, fun W hSW => by obtain ⟨y1, y2, y3⟩ := hSW; go_simp⟩) ?_
          simp only [Act.put, List.setIfInBounds_toArray, List.set_cons_zero, List.set_cons_succ]
          refine Lefts.takeB (i := 5) (u := .slice (some ⟨g, 0, none⟩) m c) rfl (by kernel_rfl) (by kernel_rfl) (by kernel_rfl) (by kernel_rfl) (fun _ _ _ h => h) (by assumption) (by assumption) (Or.inl ⟨by rfl, fun W hSW => by obtain ⟨y1, y2, y3⟩ := hSW; go_simp⟩) ?_
          simp only [Act.put, List.setIfInBounds_toArray, List.set_cons_zero, List.set_cons_succ]
          refine Lefts.takeB (i := 6) (u := .int .i64 m) rfl (by kernel_rfl) (by kernel_rfl) (by kernel_rfl) (by kernel_rfl) (fun _ _ _ h => h) (by assumption) (by assumption) (Or.inl ⟨by rfl, fun W hSW => by obtain ⟨y1, y2, y3⟩ := hSW; go_simp⟩) ?_
          simp only [Act.put, List.setIfInBounds_toArray, List.set_cons_zero, List.set_cons_succ]
          refine Lefts.takeB (i := 7) (u := .int .i64 p2) rfl (by kernel_rfl) (by kernel_rfl) (by kernel_rfl) (by kernel_rfl) (fun _ _ _ h => h) (by assumption) (by assumption) (Or.inl ⟨by rfl, fun W hSW => by obtain ⟨y1, y2, y3⟩ := hSW; go_simp⟩) ?_
          simp only [Act.put, List.setIfInBounds_toArray, List.set_cons_zero, List.set_cons_succ]
          refine Lefts.takeB (i := 8) (u := .pointer (some ⟨g, p2, none⟩)) rfl (by kernel_rfl) (by kernel_rfl) (by kernel_rfl) (by kernel_rfl) (fun _ _ _ h => h) (by assumption) (by assumption) (Or.inl ⟨by rfl, fun W hSW => by obtain ⟨y1, y2, y3⟩ := hSW; go_simp⟩) ?_
          simp only [Act.put, List.setIfInBounds_toArray, List.set_cons_zero, List.set_cons_succ]
          refine Lefts.takeB (i := 9) (u := .string (srcS p1)) rfl (by kernel_rfl) (by kernel_rfl) (by kernel_rfl) (by kernel_rfl) (fun _ _ _ h => h) (by assumption) (by assumption) (Or.inl ⟨by rfl, fun W hSW => by obtain ⟨y1, y2, y3⟩ := hSW; go_simp⟩) ?_
          simp only [Act.put, List.setIfInBounds_toArray, List.set_cons_zero, List.set_cons_succ]
          refine Lefts.takeB (i := 10) (u := .pointer (some ⟨g, p1, none⟩)) rfl (by kernel_rfl) (by kernel_rfl) (by kernel_rfl) (by kernel_rfl) (fun _ _ _ h => h) (by assumption) (by assumption) (Or.inl ⟨by rfl, fun W hSW => by obtain ⟨y1, y2, y3⟩ := hSW; go_simp⟩) ?_
          simp only [Act.put, List.setIfInBounds_toArray, List.set_cons_zero, List.set_cons_succ]
          refine Lefts.one (i := 11) (by kernel_rfl) rfl (fun K hK => ?_)
          go_simp
          refine hK.out _ _ ⟨z6, fun h => by cases h⟩ ?_
          clear hK K hS
          try simp only [Act.put, List.setIfInBounds_toArray, List.set_cons_zero, List.set_cons_succ]
          refine Lefts.done (by kernel_rfl) ?_ _
          have HI11 : Hid (SortI w1 d a' gp (dupL m) (some ⟨g, 0, none⟩) m c (w5.setCell ⟨g, p1, none⟩ (.string (srcS p1))).drew) := by
            have h := HI10.out
            unfold dupL
            rw [hp1.out] at h
            rw [hp1.out]
            exact h
          clear HI10 z1 z2 z3 z5 z6 z7 z8 hS1 HI8
          generalize (w5.setCell ⟨g, p1, none⟩ (.string (srcS p1))).drew = W6 at *
          have hR17 : Hid (rightE (withS d (dupL m)) = 10) := by
            show _ = _
            rw [rightE_with hok.out _ (by rw [dupL_length]; omega), rises_dupL hm0 hm26]; rfl
          have HCP := Lib.hid (HI11.out.put HD.out hR17.out)
          have hbk := Lib.hid HI11.out.blk
          obtain ⟨cs3, hcs3⟩ : ∃ cs, Hid (cs = sortCells d a' (some ⟨g, 0, none⟩) m c) := ⟨_, rfl⟩
          have hz3 : Hid (cs3.size = 7) := by rw [hcs3.out]; rfl
          rw [← hcs3.out] at hbk HCP
          go_upto_region 16 with (fail)
          go_upto_region 17 with (first
            | refine wpList_load_row rfl 29 (.tmp 5) rfl gp rfl 29 cs3 (0, 0) _ hbk.out Tryd.underlying29 rfl (by rw [hz3.out]; kernel_rfl) ?_
            | (go_at_call 10; refine HCP.out.mono ?_; rintro e w7 ⟨rfl, hb⟩; have HI12 := Lib.hid (HI11.out.grown hb); clear hb)
            | fail)
          clear hbk HCP HI11
          have HC17 := Lib.hid (HI12.out.right HD.out)
          rw [hR17.out] at HC17
          have hbk := Lib.hid HI12.out.blk
          rw [← hcs3.out] at hbk HC17
          go_upto_region 17 with (fail)
          go_wp2_with (first
            | refine wpList_load_row rfl 29 (.tmp 5) rfl gp rfl 29 cs3 (0, 0) _ hbk.out Tryd.underlying29 rfl (by rw [hz3.out]; kernel_rfl) ?_
            | (go_at_call 12; refine HC17.out.mono ?_; rintro e w8 ⟨rfl, hb⟩; have HI13 := Lib.hid (HI12.out.grown hb); clear hb)
            | fail)
          go_ret
          exact ⟨rfl, sorts_below HBW.out hgp.out HI13.out.below⟩
    · have e0 : (rightE d == 0) = false := by simpa using hr0
      have p0 : ws.cell? ⟨gp, 0, none⟩ = some (.slice a'.A0 d.outs.length a'.c0) := HK.out.cell 0
      have p1 : ws.cell? ⟨gp, 1, none⟩ = some (.slice a'.A1 d.ins.length a'.c1) := HK.out.cell 1
      have p3 : ws.cell? ⟨gp, 3, none⟩ = some (.string d.sys) := HK.out.cell 3
      have p4 : ws.cell? ⟨gp, 4, none⟩ = some (.string d.bld) := HK.out.cell 4
      have p5 : ws.cell? ⟨gp, 5, none⟩ = some (.slice a'.A5 d.args.length a'.c5) := HK.out.cell 5
      have p6 : ws.cell? ⟨gp, 6, none⟩ = some (.slice a'.A6 d.env.length a'.c6) := HK.out.cell 6
      unfold drvCells at HR
      rw [← hn2.out] at HR
      go_upto_region 2 with (fail)
      go_wp2_with (first
        | (go_at_call 12; refine HR.out.mono ?_; rintro e w2 ⟨rfl, hb⟩; have HB2 := Lib.hid (HB.out.trans (hb.mono (Nat.le_of_lt HK.out.lt))); clear hb)
        | fail)
      go_ret
      exact ⟨rfl, sorts_below HBW.out hgp.out HB2.out⟩
end Go.Proofs.YtbldognffppeiaaDoor
