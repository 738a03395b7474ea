/- digest.Sum, walked. -/
import Derived.Test.YtmaknbcfnigbmaaDoorWalkAdd
import Derived.Deep.AppendLies
import Derived.Lib.UnsafeStr
namespace Go.Proofs.YtmaknbcfnigbmaaDoor
open Go.RowKit Sha
set_option linter.unusedSimpArgs false

/-- The table of the squares' roots. -/
def Squares (w : World) : Prop := ∀ i, i < 8 → w.cell? ⟨1, i, none⟩ = some (.int .u32 ((squares.getD i 0).toNat : Int))
theorem Squares.below {w w1 : World} (h : Squares w) (hb : Below w.heap.size w w1) : Squares w1 :=
  fun r hr => (hb.cell (World.block_lt_of_cell? w _ (h r hr))).trans (h r hr)
theorem Squares.range {w : World} (h : Squares w) : w.rangeAt 1 0 (squares.map fun b => Value.int .u32 (b.toNat : Int)) := by
  intro j v hj
  rw [Nat.zero_add]
  have hl : j < 8 := by
    rcases Nat.lt_or_ge j 8 with hl | hl
    · exact hl
    · rw [List.getElem?_eq_none (by simpa [squares] using hl)] at hj; cases hj
  rw [h j hl, ← hj]
  rw [List.getElem?_map, List.getD_eq_getElem?_getD, List.getElem?_eq_getElem (by simpa [squares] using hl)]
  rfl
/-- What stands while the blocks are taken in: the state, the result's place, and all that was. -/
def SumS (s : List UInt32) (w W : World) : Prop :=
  Blk W w.heap.size 42 (cellsB (List.replicate 32 0)) ∧ Blk W (w.heap.size + 1) 79 (cellsW s) ∧ Below w.heap.size w W
section
variable {s : List UInt32} {w W W' : World}
theorem SumS.below (h : SumS s w W) (hb : Below W.heap.size W W') : SumS s w W' :=
  ⟨h.1.below hb h.1.lt, h.2.1.below hb h.2.1.lt, below_step' h.2.2 hb⟩
theorem SumS.below2 (h : SumS s w W) (hb : Below (w.heap.size + 2) W W') : SumS s w W' :=
  ⟨h.1.below hb (by omega), h.2.1.below hb (by omega), h.2.2.trans (hb.mono (by omega))⟩
theorem SumS.drew (h : SumS s w W) : SumS s w W.drew := ⟨h.1, h.2.1, below_drewN' h.2.2 1⟩
theorem SumS.row (h : SumS s w W) (s' : List UInt32) : SumS s' w (W.setRow (w.heap.size + 1) (cellsW s')) :=
  ⟨h.1.rowFar (by omega) _, h.2.1.row _, below_setRow h.2.2 (by omega) _⟩
theorem SumS.size (h : SumS s w W) : w.heap.size + 2 ≤ W.heap.size := h.2.1.lt
end
theorem ReadsB.head {w : World} {ad : Addr} {l : List UInt8} (h : ReadsB w (some ad) l) (m : Nat) : ReadsB w (some ad) (l.take m) := by
  have h1 := h.sub 0 m
  rw [List.drop_zero] at h1
  intro hp
  obtain ⟨x, e, hc⟩ := h1 hp
  injection e with e
  subst e
  refine ⟨ad, rfl, fun j b hj => ?_⟩
  have := hc j b hj
  rwa [Addr.add_add, Nat.zero_add] at this
theorem ReadsB.rest {w : World} {ad : Addr} {l : List UInt8} (h : ReadsB w (some ad) l) (m : Nat) : ReadsB w (some (ad.add m)) (l.drop m) := by
  have h1 := h.sub m l.length
  rwa [List.take_of_length_le (by simp)] at h1
theorem ReadsB.some_ {w : World} {A : Option Addr} {l : List UInt8} (h : ReadsB w A l) (hp : 0 < l.length) : ∃ ad, A = some ad := by
  obtain ⟨ad, e, _⟩ := h hp
  exact ⟨ad, e⟩

theorem reads_news {w W : World} {A : Option Addr} {r : List UInt8} (h : ReadsB w A r) (hb : Below w.heap.size w W) : ∀ ad, A = some ad → ∀ j u, (Lib.byteCells r)[j]? = some u → W.cell? (ad.add j) = some u := by
  intro ad e j u hj
  subst e
  simp [Lib.byteCells] at hj
  obtain ⟨b, hb', rfl⟩ := hj
  have hl : 0 < r.length := by
    rcases Nat.eq_zero_or_pos r.length with h0 | h0
    · have : r = [] := List.length_eq_zero_iff.1 h0
      subst this
      simp at hb'
    · exact h0
  obtain ⟨q, e, hc⟩ := (h.below hb) hl
  injection e with e
  subst e
  exact hc j b hb'
theorem bytes_one (r : List UInt8) : ∀ u ∈ Lib.byteCells r, u.oneCell' = true := by
  intro v hv
  simp [Lib.byteCells] at hv
  obtain ⟨b, _, rfl⟩ := hv
  rfl
theorem one_new (W : World) (b : UInt8) : ∀ j u, [Value.int .u8 (b.toNat : Int)][j]? = some u → (W.alloc (.cells #[.int .u8 (b.toNat : Int)] 5)).cell? ((⟨W.heap.size, 0, none⟩ : Addr).add j) = some u := cell_one_new _ _ _
theorem own_below {w W : World} {base : Nat} {e : TypeId} {size : Nat} {v : Value} {n : Nat} {xs : List Value} (h : w.ownsRow base e size v n xs) (hb : Below w.heap.size w W) : W.ownsRow base e size v n xs := by
  refine ⟨h.1, ?_⟩
  rcases h.2 with h1 | ⟨g, cap, cur, h1, h2, h3, h4⟩
  · exact .inl h1
  · have hg : g < w.heap.size := by
      rcases Nat.lt_or_ge g w.heap.size with hlt | hge
      · exact hlt
      · rw [Array.getElem?_eq_none hge] at h3; cases h3
    exact .inr ⟨g, cap, cur, h1, h2, (hb.block g hg).trans h3, h4⟩
theorem pad_cells (r : List UInt8) (z : Nat) : Lib.byteCells (r ++ 128 :: List.replicate (z + 1) 0) = Lib.byteCells (r ++ 128 :: List.replicate z 0) ++ [Value.int .u8 0] := by
  rw [List.replicate_succ', ← List.cons_append, ← List.append_assoc, Lib.byteCells_append]
  rfl
theorem own_reads {W : World} {base : Nat} {e : TypeId} {g cap : Nat} {T : List UInt8} (h : W.ownsRow base e 1 (.slice (some ⟨g, 0, none⟩) T.length cap) T.length (Lib.byteCells T)) : ReadsB W (some ⟨g, 0, none⟩) T := fun _ =>
  ⟨_, rfl, fun j b hj => by
    obtain ⟨hlt, he⟩ := List.getElem?_eq_some_iff.1 hj
    rw [Addr.add_mid, Nat.zero_add, h.cellAt j (by omega)]
    simp [Lib.byteCells, hlt, he]⟩
theorem cell_rowFar (W : World) (g : Nat) (cs : Array Value) (a : Addr) (h : a.block ≠ g) : (W.setRow g cs).cell? a = W.cell? a := by
  unfold World.cell?
  rw [setRow_other W g a.block cs h]
theorem ReadsB.rowFar {W : World} {A : Option Addr} {l : List UInt8} (h : ReadsB W A l) (g : Nat) (hA : ∀ p, A = some p → p.block ≠ g) (cs : Array Value) : ReadsB (W.setRow g cs) A l := fun hn => by
  obtain ⟨q, e, hc⟩ := h hn
  subst e
  refine ⟨q, rfl, fun j b hj => ?_⟩
  rw [cell_rowFar W g cs _ (by have := hA q rfl; have e : (q.add j).block = q.block := (by unfold Addr.add; split <;> rfl); rw [e]; exact this)]
  exact hc j b hj
/-- The digest's bytes that are laid after k rounds. -/
def laidD (x : List UInt32) (k : Nat) : List UInt8 := outB (x.take k) ++ List.replicate (32 - 4 * k) 0
theorem laidD_length (x : List UInt32) (k : Nat) (hx : x.length = 8) (hk : k ≤ 8) : (laidD x k).length = 32 := by
  simp [laidD, outB_length, hx]; omega
theorem laidD_step (x : List UInt32) (k : Nat) (hx : x.length = 8) (hk : k < 8) :
    ((cellsB (laidD x k)).toList.take (4 * k) ++ (Lib.byteCells (beB 4 (x.getD k 0).toNat) ++ (cellsB (laidD x k)).toList.drop (4 * k + (Lib.byteCells (beB 4 (x.getD k 0).toNat)).length))).toArray = cellsB (laidD x (k + 1)) := by
  have h1 : (outB (x.take k)).length = 4 * k := by rw [outB_length, List.length_take]; omega
  have h2 : outB (x.take (k + 1)) = outB (x.take k) ++ beB 4 (x.getD k 0).toNat := by
    have hx' : x.getD k 0 = x[k] := by simp [List.getD, show k < x.length by omega]
    unfold outB
    rw [List.take_succ_eq_append_getElem (by omega), List.flatMap_append, hx', List.flatMap_cons, List.flatMap_nil, List.append_nil]
  have h3 : List.replicate (32 - 4 * k) (0 : UInt8) = List.replicate 4 0 ++ List.replicate (32 - 4 * (k + 1)) 0 := by
    rw [List.replicate_append_replicate]; congr 1; omega
  have e1 : (cellsB (laidD x k)).toList = Lib.byteCells (outB (x.take k)) ++ (Lib.byteCells (List.replicate 4 0) ++ Lib.byteCells (List.replicate (32 - 4 * (k + 1)) 0)) := by
    rw [← Lib.byteCells_append, ← h3, ← Lib.byteCells_append]; rfl
  have e2 : cellsB (laidD x (k + 1)) = (Lib.byteCells (outB (x.take k)) ++ (Lib.byteCells (beB 4 (x.getD k 0).toNat) ++ Lib.byteCells (List.replicate (32 - 4 * (k + 1)) 0))).toArray := by
    rw [← Lib.byteCells_append, ← Lib.byteCells_append, ← List.append_assoc, ← h2]; rfl
  have l1 : (Lib.byteCells (outB (x.take k))).length = 4 * k := by rw [Lib.byteCells_length, h1]
  have l2 : (Lib.byteCells (beB 4 (x.getD k 0).toNat)).length = 4 := by rw [Lib.byteCells_length, beB_length]
  have l3 : (Lib.byteCells (List.replicate 4 0)).length = 4 := by rw [Lib.byteCells_length, List.length_replicate]
  rw [e1, e2, l2]
  congr 1
  rw [List.take_left' l1, ← List.append_assoc (Lib.byteCells (outB (x.take k))) (Lib.byteCells (List.replicate 4 0)), List.drop_left' (by rw [List.length_append, l1, l3])]
theorem slice_from (g k : Nat) (hk : k < 8) (W : World) : (Instr.sliceAt 42 (.pointer (some ⟨g, 0, none⟩)) (some (.int .i64 (4 * (k : Int)))) none none).run Tryd.prog W = .ok (.slice (some ⟨g, 4 * k, none⟩) (32 - 4 * k) (32 - 4 * k)) W := by
  have hl : Tryd.prog.arrayLen 42 = 32 := by kernel_rfl
  have he : Tryd.prog.elem 42 = 5 := by kernel_rfl
  have hu : Tryd.prog.underlying 42 = some (.array (Tryd.prog.arrayLen 42) (Tryd.prog.elem 42)) := by rw [hl, he]; exact Tryd.underlying42
  rw [run_sliceAt_array_l W 42 ⟨g, 0, none⟩ hu .i64 (4 * (k : Int)) (by omega) (by rw [hl]; omega), hl, he, Tryd.sizeOf5]
  have e1 : (4 * (k : Int)).toNat = 4 * k := by omega
  rw [Result.andThen_ok, e1]
  unfold slicedAt
  rw [if_neg (by omega), Addr.add_mid, Nat.mul_one, Nat.zero_add]
theorem ReadsB.cut {w : World} {p : Addr} {L : List UInt8} (h : ReadsB w (some p) L) (c' : Nat) (hm : L.length ≤ c') (h64 : 64 ≤ L.length) : ReadsB w (if c' = 64 then some p else some ⟨p.block, p.off + 64, none⟩) (L.drop 64) := by
  by_cases hc : c' = 64
  · have : L.drop 64 = [] := List.drop_eq_nil_of_le (by omega)
    rw [this]
    exact ReadsB.nil _ _
  · rw [if_neg hc]
    exact h.rest 64
theorem ReadsB.below' {w w1 : World} {A : Option Addr} {l : List UInt8} (h : ReadsB w A l) (hb : Below w.heap.size w w1) : ReadsB w1 A l := h.below hb
theorem Cubes.below' {w w1 : World} (h : Cubes w) (hb : Below w.heap.size w w1) : Cubes w1 := h.below hb
set_option maxHeartbeats 4000000 in
set_option maxRecDepth 100000 in
theorem sum_any (A : Option Addr) (l : List UInt8) (c : Nat) (hl : l.length ≤ 70368744177664) (hlc : l.length ≤ c) (hA : A = none → c = 0) (w : World) (hr : ReadsB w A l) (hC : Cubes w) (hQ : Squares w) :
    Calls Tryd.prog 22 #[.slice A l.length c] w fun e w' => e = .returned (.agg (cellsB (sum l))) ∧ Below w.heap.size w w' := by
  obtain ⟨i0, hi, hz0, hz1, hz2⟩ := info_parts info5b
  have HR := Lib.hid hr
  have HC := Lib.hid hC
  have H0 := Lib.hid hz0
  have H1 := Lib.hid hz1
  have H2 := Lib.hid hz2
  have HII := Lib.hid hi
  have HQ := Lib.hid hQ
  obtain ⟨sq, hsq⟩ : ∃ sq : List Value, sq = squares.map fun b => Value.int .u32 (b.toNat : Int) := ⟨_, rfl⟩
  have hsq8 : (Tryd.prog.info? 79).map (·.size) = some sq.length := by rw [hsq]; kernel_rfl
  have hsq9 : (Tryd.prog.info? 79).map (·.size) = some sq.toArray.size := by rw [hsq]; kernel_rfl
  have hsq1 : sq.toArray.all (·.oneCell') = true := by rw [hsq]; exact cellsW_one squares
  have HSZ : Hid ((8 : Nat) = sq.toArray.size) := by rw [Hid, hsq]; rfl
  have HSE : Hid (sq.toArray = cellsW squares) := by rw [Hid, hsq]; rfl
  clear hr hC hQ hz0 hz1 hz2 hi
  go_enter Tryd.func22, Tryd.ntmps22
  go_upto_region 1 with (fail)
  change Code.wp _ _ _ _ (w.alloc (.cells (cellsB (List.replicate 32 0)) 42))
  have HSQ := Lib.hid (HQ.out.below ((Below.refl w.heap.size w).alloc (Nat.le_refl _) (.cells (cellsB (List.replicate 32 0)) 42)))
  have HBd := Lib.hid (Blk.new w 42 (cellsB (List.replicate 32 0)))
  have HW1 := Lib.hid ((Below.refl w.heap.size w).alloc (Nat.le_refl _) (.cells (cellsB (List.replicate 32 0)) 42))
  have hsz : (w.alloc (.cells (cellsB (List.replicate 32 0)) 42)).heap.size = w.heap.size + 1 := World.size_alloc _ _
  generalize w.alloc (.cells (cellsB (List.replicate 32 0)) 42) = W1 at *
  have HN : Hid (Blk (W1.alloc (.cells #[.int .u32 0, .int .u32 0, .int .u32 0, .int .u32 0, .int .u32 0, .int .u32 0, .int .u32 0, .int .u32 0] 79)) (w.heap.size + 1) 79 #[.int .u32 0, .int .u32 0, .int .u32 0, .int .u32 0, .int .u32 0, .int .u32 0, .int .u32 0, .int .u32 0]) := by have h := Blk.new W1 79 (cellsW (List.replicate 8 0)); rw [hsz] at h; exact h
  have HRG : Hid (W1.rangeAt 1 0 sq) := by rw [Hid, hsq]; exact HSQ.out.range
  clear hsq
  go_upto_region 2 with (first
    | (refine wpList_load_mid (by rfl) 79 (.global 1) (by rfl) 1 0 (by rfl) sq _ HRG.out Tryd.underlying79 rfl hsq8 ?_)
    | (refine wpList_store_row rfl 79 (.tmp 3) (.tmp 12) rfl (w.heap.size + 1) sq.toArray rfl rfl 79 _ HN.out hsq9 HSZ.out hsq1 ?_))
  rw [HSE.out]
  have HS := Lib.hid (show SumS squares w ((W1.alloc (.cells #[.int .u32 0, .int .u32 0, .int .u32 0, .int .u32 0, .int .u32 0, .int .u32 0, .int .u32 0, .int .u32 0] 79)).setRow (w.heap.size + 1) (cellsW squares)) from
    ⟨(HBd.out.alloc _).rowFar (by omega) _, HN.out.row _, below_setRow (HW1.out.alloc (by omega) _) (by omega) _⟩)
  generalize (W1.alloc (.cells #[.int .u32 0, .int .u32 0, .int .u32 0, .int .u32 0, .int .u32 0, .int .u32 0, .int .u32 0, .int .u32 0] 79)).setRow (w.heap.size + 1) (cellsW squares) = W2 at *
  clear HN HBd HW1 HSQ HRG hsq8 hsq9 hsq1 HSZ HSE hsz
  have HAn := Lib.hid hA
  clear hA
  go_loopw [0] (fun t0 wr => ∃ (j m c' : Nat) (A' : Option Addr), t0 = .slice A' m c' ∧ Hid (m + 64 * j = l.length) ∧ m ≤ l.length ∧ m ≤ c' ∧ Hid (A' = none → c' = 0) ∧ Hid (ReadsB w A' (l.drop (64 * j))) ∧ Hid (SumS (sumBlocks squares j l) w wr)) (fun t0 _ => match t0 with | .slice _ m _ => m | _ => 0)
  case atStart => exact ⟨0, l.length, c, A, rfl, by simp [Hid], Nat.le_refl _, hlc, HAn, HR.out, HS⟩
  case round =>
    clear HS
    obtain ⟨j, m, c', A', rfl, HM, hml, hmc, HAn', HRB, HS⟩ := hrel
    have HB : Hid (sumBlocks squares (j + 1) l = addB (sumBlocks squares j l) ((l.drop (64 * j)).take 64)) := sumBlocks_take j squares l
    have HL8 : Hid ((sumBlocks squares j l).length = 8) := sumBlocks_length j squares l
    have HDL : Hid ((l.drop (64 * j)).length = m) := by have := HM.out; rw [Hid, List.length_drop]; omega
    have HDD : Hid ((l.drop (64 * j)).drop 64 = l.drop (64 * (j + 1))) := by rw [Hid, List.drop_drop]; congr 1
    by_cases hlt : 64 ≤ m
    · obtain ⟨p, rfl⟩ := HRB.out.some_ (by have := HDL.out; omega)
      generalize sumBlocks squares j l = s at *
      have hi1 : (Tryd.prog.info? 79).map (·.size) = some (s.map fun b => Value.int .u32 (b.toNat : Int)).length := by rw [List.length_map, HL8.out]; kernel_rfl
      have hc0 : Hid (∀ W, Hid (SumS s w W) → Calls Tryd.prog 40 #[.agg (cellsW s), .slice (some p) 64 c'] W fun r W' => r = .returned (.agg (cellsW (sumBlocks squares (j + 1) l))) ∧ Hid (SumS s w W')) :=
        fun W h => by
          rw [HB.out]
          exact (add_any p ((l.drop (64 * j)).take 64) c' s (by have := HDL.out; rw [List.length_take]; omega) (by omega) HL8.out W ((HRB.out.below' h.out.2.2).head 64) (HC.out.below' h.out.2.2)).mono fun r W' ⟨h1, h2⟩ => ⟨h1, h.out.below h2⟩
      have HS9 : Hid ((cellsW (sumBlocks squares (j + 1) l)).size = 8) := by rw [Hid, cellsW_size, sumBlocks_length]; rfl
      have HS7 : Hid ((cellsW s).size = 8) := by rw [Hid, cellsW_size]; exact HL8.out
      generalize hs' : sumBlocks squares (j + 1) l = s' at *
      have HSS := Lib.hid hs'
      clear hs'
      have h64 : (64 : Int) ≤ (c' : Int) := by omega
      go_wp2_with fail
      refine wp_region_still_tail 3 (by kernel_rfl) (by kernel_rfl) ?_
      simp only [List.take_succ_cons, List.take_zero, List.drop_succ_cons, List.drop_zero]
      change wpStill _ _ (wr.drewN 1) _ _ _
      refine stillO rfl 79 (.tmp 3) rfl (w.heap.size + 1) 0 rfl (s.map fun b => Value.int .u32 (b.toNat : Int)) _ (blk_rangeW (HS.out.2.1.drewN 1)) Tryd.underlying79 rfl hi1 ?_
      simp only [Act.put, List.setIfInBounds_toArray, List.set_cons_zero, List.set_cons_succ]
      repeat still_step
      refine wpStill_nil ?_
      have HSd : Hid (SumS s w (wr.drewN 1)) := HS.out.drew
      change wpList _ _ _ _ _ (wr.drewN 1)
      generalize wr.drewN 1 = W5 at *
      clear HS
      go_wp2_with fail
      refine (hc0.out _ HSd).mono ?_
      rintro r W3 ⟨rfl, HS3⟩
      have HBx : Hid (Blk W3 (w.heap.size + 1) 79 (cellsW s)) := HS3.out.2.1
      go_wp2_with (refine wpList_store_row (by rfl) 79 (.tmp 3) (.tmp 24) (by rfl) (w.heap.size + 1) (cellsW s') (by rfl) (by rfl) 79 _ HBx.out (by rw [HS9.out]; kernel_rfl) (by rw [HS9.out]; exact HS7.out) (cellsW_one _) ?_)
      go_roundw
      case rel =>
        refine ⟨j + 1, m - 64, c' - 64, _, rfl, by have := HM.out; rw [Hid]; omega, by omega, by omega, (fun h => by split at h <;> cases h), ?_, ?_⟩
        · have := HRB.out.cut c' (by have := HDL.out; omega) (by have := HDL.out; omega)
          rw [HDD.out] at this
          exact this
        · rw [HSS.out]
          exact HS3.out.row s'
      case measure => simp; omega
    · have hq : j = l.length / 64 := by have := HM.out; omega
      have HJ := Lib.hid hq
      have HMM : Hid (m = l.length % 64) := by have := HM.out; rw [Hid]; omega
      clear hq HB HDD
      generalize hs0 : sumBlocks squares j l = s at *
      have HSJ := Lib.hid hs0
      clear hs0
      generalize hr : l.drop (64 * j) = r at *
      have HRR := Lib.hid hr
      clear hr
      have hm64 : m < 64 := by omega
      have hn1 : (Lib.byteCells r).length = m * 1 := by rw [Lib.byteCells_length, HDL.out]; omega
      have hn2 : A' = none → m = 0 ∧ c' = 0 := fun h => by have := HAn'.out h; omega
      have hz1' : i0.bytes * 128 ≤ 281474976710656 := by rw [H2.out]; decide
      have hbb : 0 + m ≤ 128 := by omega
      have HN1 := Lib.hid hn1
      have HN2 := Lib.hid hn2
      have HZB := Lib.hid hz1'
      have HBB := Lib.hid hbb
      have hsz := HS.out.size
      clear hn1 hn2 hz1' hbb
      go_upto_region 6 with (first
        | (refine wpList_make_own _ rfl _ _ 22 rfl (w.heap.size + 2) 5 i0 (.int .u8 0) 1 Tryd.underlying22 HII.out H0.out H1.out .i64 .i64 _ 128 rfl rfl rfl HZB.out (by unfold maxLen; decide) hsz ?_; intro w1 hown1 hgrow1; have HO1 := Lib.hid hown1; have HB1 : Hid (Below (w.heap.size + 2) wr w1) := (Below.refl _ wr).grown hgrow1 hsz (fun _ h => by cases h); clear hown1 hgrow1)
        | (at_builtin; refine wpList_append_fits_any _ rfl (.tmp 25) (.tmp 26) 22 rfl (w.heap.size + 2) 5 i0 1 Tryd.underlying22 HII.out H1.out wr.heap.size 0 128 [] rfl HO1.out A' m c' (Lib.byteCells r) rfl HN1.out HN2.out (reads_news HRB.out (HS.out.below2 HB1.out).2.2) (bytes_one r) HBB.out ?_; intro w2 hown2 hgrow2; have HO2 : Hid (w2.ownsRow (w.heap.size + 2) 5 1 (.slice (some ⟨wr.heap.size, 0, none⟩) m 128) m (Lib.byteCells r)) := (by have h := hown2; rw [Nat.zero_add, List.nil_append] at h; exact h); have HB2 : Hid (Below (w.heap.size + 2) wr w2) := HB1.out.grown hgrow2 (Nat.le_trans hsz HB1.out.size) (fun k h => by cases h; exact hsz); clear hown2 hgrow2)
        | (at_builtin; refine wpList_append_own _ rfl (.tmp 27) (.tmp 28) 22 rfl (w.heap.size + 2) 5 i0 (.int .u8 0) 1 1 Tryd.underlying22 HII.out H0.out H1.out H2.out rfl (by decide) _ _ _ rfl (HO2.out.alloc _) ⟨w2.heap.size, 0, none⟩ 1 1 [.int .u8 128] rfl rfl (cell_one_new _ _ _) (fun u hu => by simp at hu; subst hu; rfl) (by unfold maxLen; omega) (by omega) (by have h := HB2.out.size; simp; omega) ?_; intro v3 w3 hown3 hgrow3 _))
      have HB3 : Hid (Below (w.heap.size + 2) wr w3) := (HB2.out.alloc (Nat.le_trans hsz HB2.out.size) _).grown hgrow3 (by have h := HB2.out.size; simp; omega) (fun k h => by cases h; exact hsz)
      have hf3 := hown3.form (by omega)
      obtain ⟨g3, cap3, hv3, hg3, _⟩ := hf3
      rw [hv3] at hown3 ⊢
      have HO3 := Lib.hid hown3
      have HS3 := Lib.hid (HS.out.below2 HB3.out)
      clear hown3 hgrow3 hv3 HB1 HB2 HO1 HO2 HB3 HS
      go_loopw [5] (fun t5 wq => ∃ z n g cap : Nat, Hid (n = m + 1 + z) ∧ z ≤ padZ l.length ∧ n ≤ 128 ∧ t5 = .slice (some ⟨g, 0, none⟩) n cap ∧ Hid (wq.ownsRow (w.heap.size + 2) 5 1 (.slice (some ⟨g, 0, none⟩) n cap) n (Lib.byteCells (r ++ 128 :: List.replicate z 0))) ∧ Hid (SumS s w wq)) (fun t5 _ => match t5 with | .slice _ n _ => 200 - n | _ => 0)
      case atStart => exact ⟨0, m + 1, g3, cap3, rfl, Nat.zero_le _, by omega, rfl, by have h := HO3.out; rw [Hid, List.replicate_zero, Lib.byteCells_append]; exact h, HS3⟩
      case round =>
        clear HO3 HS3
        obtain ⟨z, n, g, cap, HN, hz, hn128, rfl, HO, HS⟩ := hrel
        have hpz := padZ_lt l.length
        have hsz := HS.out.size
        by_cases h56 : n % 64 = 56
        · have hzz := pad_done l z hz (by have h1 := HN.out; have h2 := HMM.out; omega)
          have hb : ((n : Int) % 64 != 56) = false := by rw [bne_eq_false_iff_eq]; omega
          have HBy : Hid (∀ W, Calls Tryd.prog 41 #[.int .u64 ((l.length : Int) * 8), .int .i64 8] W fun e w' => e = .returned (.tuple #[.slice (some ⟨W.heap.size, 0, none⟩) 8 8, .int .i64 0]) ∧ Blk w' W.heap.size 5 (cellsB (beB 8 (8 * l.length))) ∧ Below W.heap.size W w') := fun W => by
            have h := bytes_any (8 * l.length) 8 (by omega) (by decide) (by decide) W
            rw [show ((8 * l.length : Nat) : Int) = (l.length : Int) * 8 by omega] at h
            exact h
          have HLE : Hid ((Lib.byteCells (beB 8 (8 * l.length))).length = 8 * 1) := by rw [Hid, Lib.byteCells_length, beB_length]
          have HTT : Hid (r ++ 128 :: List.replicate z 0 ++ beB 8 (8 * l.length) = tailOf l) := by
            have h1 := HRR.out
            rw [HJ.out] at h1
            rw [Hid, hzz, ← h1, List.append_assoc]
            rfl
          clear hzz
          have hlt : w.heap.size + 2 ≤ g := (HO.out.lt g rfl).1
          go_wp2_with fail
          refine (HBy.out _).mono ?_
          rintro e w4 ⟨rfl, hbk, hb4⟩
          have HO4 := Lib.hid (own_below HO.out hb4)
          have HS4 := Lib.hid (HS.out.below hb4)
          have HNW : Hid (∀ j u, (Lib.byteCells (beB 8 (8 * l.length)))[j]? = some u → w4.cell? ((⟨wr.heap.size, 0, none⟩ : Addr).add j) = some u) := reads_news (hbk.reads) (Below.refl _ _) _ rfl
          have hsz4 := HS4.out.size
          clear hbk hb4
          go_upto_region 10 with (at_builtin; refine wpList_append_own _ rfl (.tmp 43) (.tmp 44) 22 rfl (w.heap.size + 2) 5 i0 (.int .u8 0) 1 1 Tryd.underlying22 HII.out H0.out H1.out H2.out rfl (by decide) _ _ _ rfl HO4.out ⟨wr.heap.size, 0, none⟩ 8 8 (Lib.byteCells (beB 8 (8 * l.length))) rfl HLE.out HNW.out (bytes_one _) (by unfold maxLen; omega) (by omega) (by omega) ?_; intro v3 w3 hown3 hgrow3 _)
          have hf3 := hown3.form (by omega)
          obtain ⟨g3, cap3, hv3, hg3, _⟩ := hf3
          rw [hv3] at hown3 ⊢
          have HB3 : Hid (Below (w.heap.size + 2) w4 w3) := (Below.refl _ w4).grown hgrow3 hsz4 (fun k h => by cases h; exact hlt)
          have HTL : Hid (n + 8 = (tailOf l).length) := by
            have h := congrArg List.length HTT.out
            rw [List.length_append, beB_length, List.length_append, List.length_cons, List.length_replicate, HDL.out] at h
            have := HN.out
            rw [Hid]; omega
          have HO5 : Hid (w3.ownsRow (w.heap.size + 2) 5 1 (.slice (some ⟨g3, 0, none⟩) (tailOf l).length cap3) (tailOf l).length (Lib.byteCells (tailOf l))) := by
            have h := hown3
            rw [← Lib.byteCells_append, HTT.out, HTL.out] at h
            exact h
          have hcap : n + 8 ≤ cap3 := by
            rcases hown3.2 with ⟨h1, _⟩ | ⟨_, _, _, h1, _, _, h2, _⟩
            · cases h1
            · injection h1 with _ _ h3; omega
          have HR5 := Lib.hid (own_reads HO5.out)
          have HS5 := Lib.hid (HS4.out.below2 HB3.out)
          have HMD := Lib.hid (tailOf_mod l)
          have HSE := Lib.hid (sum_eq l)
          rw [← HJ.out, HSJ.out] at HSE
          clear HSJ HJ
          clear hown3 hgrow3 hv3 HO4 HS4 HB3 HO5 HNW HTT HO HS hsz4
          generalize tailOf l = T at *
          rw [HTL.out]
          have hT : T.length ≤ 200 := by have := HTL.out; omega
          have hcap' : T.length ≤ cap3 := by have := HTL.out; omega
          go_loopw [5] (fun t5 wr => ∃ (j m c' : Nat) (A' : Option Addr), t5 = .slice A' m c' ∧ Hid (m + 64 * j = T.length) ∧ m ≤ T.length ∧ m ≤ c' ∧ Hid (∀ p, A' = some p → p.block ≠ w.heap.size + 1) ∧ Hid (ReadsB wr A' (T.drop (64 * j))) ∧ Hid (SumS (sumBlocks s j T) w wr)) (fun t5 _ => match t5 with | .slice _ m _ => m | _ => 0)
          case atStart => exact ⟨0, T.length, cap3, _, rfl, by simp [Hid], Nat.le_refl _, hcap', fun p h => by cases h; show g3 ≠ _; omega, HR5, HS5⟩
          case round =>
            clear HS5 HR5 hcap hcap'
            obtain ⟨j, m, c', A', rfl, HM, hml, hmc, HAb, HRB, HS⟩ := hrel
            have HB : Hid (sumBlocks s (j + 1) T = addB (sumBlocks s j T) ((T.drop (64 * j)).take 64)) := sumBlocks_take j s T
            have HL9 : Hid ((sumBlocks s j T).length = 8) := (sumBlocks_length j s T).trans HL8.out
            have HL10 : Hid ((sumBlocks s (j + 1) T).length = 8) := (sumBlocks_length (j + 1) s T).trans HL8.out
            have HDT : Hid ((T.drop (64 * j)).length = m) := by have := HM.out; rw [Hid, List.length_drop]; omega
            have HDD : Hid ((T.drop (64 * j)).drop 64 = T.drop (64 * (j + 1))) := by rw [Hid, List.drop_drop]; congr 1
            by_cases hlt : 0 < m
            · have hge : 64 ≤ m := by have h1 := HM.out; have h2 := HMD.out; omega
              obtain ⟨p, rfl⟩ := HRB.out.some_ (by have := HDT.out; omega)
              have hpb : p.block ≠ w.heap.size + 1 := HAb.out p rfl
              have HPB := Lib.hid hpb
              clear hpb
              generalize sumBlocks s j T = x at *
              have hi1 : (Tryd.prog.info? 79).map (·.size) = some (x.map fun b => Value.int .u32 (b.toNat : Int)).length := by rw [List.length_map, HL9.out]; kernel_rfl
              have hc0 : Hid (∀ W, Hid (SumS x w W) → Hid (ReadsB W (some p) (T.drop (64 * j))) → Calls Tryd.prog 40 #[.agg (cellsW x), .slice (some p) 64 c'] W fun r W' => r = .returned (.agg (cellsW (sumBlocks s (j + 1) T))) ∧ Hid (SumS x w W') ∧ Hid (ReadsB W' (some p) (T.drop (64 * j)))) :=
                fun W h k => by
                  rw [HB.out]
                  exact (add_any p ((T.drop (64 * j)).take 64) c' x (by have := HDT.out; rw [List.length_take]; omega) (by omega) HL9.out W (k.out.head 64) (HC.out.below' h.out.2.2)).mono fun r W' ⟨h1, h2⟩ => ⟨h1, h.out.below h2, k.out.below h2⟩
              have HS9 : Hid ((cellsW (sumBlocks s (j + 1) T)).size = 8) := by rw [Hid, cellsW_size]; exact HL10.out
              have HS7 : Hid ((cellsW x).size = 8) := by rw [Hid, cellsW_size]; exact HL9.out
              generalize hs' : sumBlocks s (j + 1) T = s' at *
              have HSS := Lib.hid hs'
              clear hs'
              have h64 : (64 : Int) ≤ (c' : Int) := by omega
              go_wp2_with fail
              refine wp_region_still_tail 3 (by kernel_rfl) (by kernel_rfl) ?_
              simp only [List.take_succ_cons, List.take_zero, List.drop_succ_cons, List.drop_zero]
              change wpStill _ _ (wr.drewN 1) _ _ _
              refine stillO rfl 79 (.tmp 3) rfl (w.heap.size + 1) 0 rfl (x.map fun b => Value.int .u32 (b.toNat : Int)) _ (blk_rangeW (HS.out.2.1.drewN 1)) Tryd.underlying79 rfl hi1 ?_
              simp only [Act.put, List.setIfInBounds_toArray, List.set_cons_zero, List.set_cons_succ]
              repeat still_step
              refine wpStill_nil ?_
              have HSd : Hid (SumS x w (wr.drewN 1)) := HS.out.drew
              have HRd : Hid (ReadsB (wr.drewN 1) (some p) (T.drop (64 * j))) := HRB.out.drewN 1
              change wpList _ _ _ _ _ (wr.drewN 1)
              generalize wr.drewN 1 = W5 at *
              clear HS HRB
              go_wp2_with fail
              refine (hc0.out _ HSd HRd).mono ?_
              rintro r W3 ⟨rfl, HS3, HR3⟩
              have HBx : Hid (Blk W3 (w.heap.size + 1) 79 (cellsW x)) := HS3.out.2.1
              go_wp2_with (refine wpList_store_row (by rfl) 79 (.tmp 3) (.tmp 54) (by rfl) (w.heap.size + 1) (cellsW s') (by rfl) (by rfl) 79 _ HBx.out (by rw [HS9.out]; kernel_rfl) (by rw [HS9.out]; exact HS7.out) (cellsW_one _) ?_)
              go_roundw
              case rel =>
                refine ⟨j + 1, m - 64, c' - 64, _, rfl, by have := HM.out; rw [Hid]; omega, by omega, by omega, (fun q h => by split at h <;> cases h <;> exact HPB.out), ?_, ?_⟩
                · have h1 := HR3.out.cut c' (by have := HDT.out; omega) (by have := HDT.out; omega)
                  rw [HDD.out] at h1
                  exact h1.rowFar _ (fun q h => by split at h <;> cases h <;> exact HPB.out) _
                · rw [HSS.out]
                  exact HS3.out.row s'
              case measure => simp; omega
            · have hq : j = T.length / 64 := by have := HM.out; omega
              have HF : Hid (sum l = outB (sumBlocks s j T)) := by rw [Hid, hq]; exact HSE.out
              clear hq HB HL10 HSE
              generalize sumBlocks s j T = x at *
              have HX8 : Hid ((cellsW x).size = 8) := by rw [Hid, cellsW_size]; exact HL9.out
              have HBx : Hid (Blk wr (w.heap.size + 1) 79 (cellsW x)) := HS.out.2.1
              have HBd : Hid (Blk wr w.heap.size 42 (cellsB (List.replicate 32 0))) := HS.out.1
              have HBw : Hid (Below w.heap.size w wr) := HS.out.2.2
              clear HS
              go_wp2_with (refine wpList_load_row rfl 79 (.tmp 3) rfl (w.heap.size + 1) rfl 79 (cellsW x) (0, 0) _ HBx.out Tryd.underlying79 rfl (by rw [HX8.out]; kernel_rfl) ?_)
              obtain ⟨wo, rfl⟩ : ∃ wo : World, wo = wr := ⟨_, rfl⟩
              go_loopw [56] (fun t56 wr => ∃ k : Nat, t56 = .int .i64 k ∧ k ≤ 8 ∧ Hid (Blk wr w.heap.size 42 (cellsB (laidD x k))) ∧ Hid (Below w.heap.size w wr)) (fun t56 _ => 8 - (intOf t56).toNat)
              case atStart => exact ⟨0, rfl, by omega, by have h := HBd.out; simpa [Hid, laidD, outB] using h, HBw⟩
              case round =>
                clear HBd HBw HBx
                obtain ⟨k, rfl, hk, HBd, HBw⟩ := hrel
                by_cases hlt8 : k < 8
                · have hix := fun w => run_index_one (P := Tryd.prog) (k := .i64) Tryd.underlying79 Tryd.isAgg67 Tryd.sizeOf67 (cellsW x) k _ hlt8 (cellsW_getD x k (by rw [HL9.out]; exact hlt8)) w
                  have HST := Lib.hid (laidD_step x k HL9.out hlt8)
                  have HLD := Lib.hid (laidD_length x k HL9.out hk)
                  have HBy : Hid (∀ W, Calls Tryd.prog 41 #[.int .u64 ((x.getD k 0).toNat : Int), .int .i64 4] W fun e w' => e = .returned (.tuple #[.slice (some ⟨W.heap.size, 0, none⟩) 4 4, .int .i64 0]) ∧ Blk w' W.heap.size 5 (cellsB (beB 4 (x.getD k 0).toNat)) ∧ Below W.heap.size W w') := fun W =>
                    bytes_any (x.getD k 0).toNat 4 (by have := (x.getD k 0).toNat_lt; omega) (by decide) (by decide) W
                  have HBL : Hid ((Lib.byteCells (beB 4 (x.getD k 0).toNat)).length = 4) := by rw [Hid, Lib.byteCells_length, beB_length]
                  have hv := (x.getD k 0).toNat_lt
                  generalize x.getD k 0 = v at *
                  have hsl := slice_from w.heap.size k hlt8
                  have hk0 : (0 : Int) ≤ (k : Int) := by omega
                  have hk8 : (k : Int) < 8 := by omega
                  go_wp2_with fail
                  refine (HBy.out _).mono ?_
                  rintro e w4 ⟨rfl, hbk, hb4⟩
                  have HB4 := Lib.hid (HBd.out.below hb4 HBd.out.lt)
                  have HW4 := Lib.hid (below_step' HBw.out hb4)
                  have HNW : Hid (∀ j u, (Lib.byteCells (beB 4 v.toNat))[j]? = some u → w4.cell? ((⟨wr.heap.size, 0, none⟩ : Addr).add j) = some u) := reads_news (hbk.reads) (Below.refl _ _) _ rfl
                  have hsh : w4.shape? w.heap.size = some (42, 32) := by
                    have h := HB4.out
                    unfold Blk at h
                    simp [World.shape?, h, cellsB_size, HLD.out]
                  clear hbk hb4
                  go_wp2_with (refine wpList_copy_own rfl (.tmp 68) (.tmp 69) 22 22 rfl 5 Tryd.underlying22 (by kernel_rfl) w.heap.size (4 * k) (32 - 4 * k) (32 - 4 * k) ⟨wr.heap.size, 0, none⟩ 4 4 rfl rfl (cellsB (laidD x k)) 42 HB4.out (Lib.byteCells (beB 4 v.toNat)) (by rw [HBL.out]; show 4 = min 4 (32 - 4 * k); omega) HNW.out (by rw [HBL.out, cellsB_size, HLD.out]; omega) (bytes_one _) ?_)
                  go_roundw
                  case rel =>
                    refine ⟨k + 1, by go_num, by omega, ?_, below_setRow HW4.out (Nat.le_refl _) _⟩
                    rw [HST.out]
                    exact HB4.out.row _
                  case measure => simp [intOf]; omega
                · obtain rfl : k = 8 := by omega
                  have HFB : Hid (Blk wr w.heap.size 42 (cellsB (sum l))) := by
                    have h := HBd.out
                    have e : laidD x 8 = sum l := by rw [HF.out]; unfold laidD; rw [List.take_of_length_le (by rw [HL9.out]; decide)]; exact List.append_nil _
                    rw [e] at h
                    exact h
                  have HSZ : Hid ((cellsB (sum l)).size = 32) := by rw [Hid, cellsB_size, sum_length]
                  clear HBd
                  go_wp2_with (first
                    | (refine wpList_load_row rfl 42 (.tmp 2) rfl w.heap.size rfl 42 (cellsB (sum l)) (0, 0) _ HFB.out Tryd.underlying42 rfl (by rw [HSZ.out]; kernel_rfl) ?_)
                    | (refine wpList_store_row rfl 42 (.tmp 2) (.tmp 72) rfl w.heap.size (cellsB (sum l)) rfl rfl 42 _ HFB.out (by rw [HSZ.out]; kernel_rfl) (by rw [HSZ.out]) (cellsB_one _) ?_))
                  refine bodyPost_ret (results_cell_row rfl _ _ w.heap.size 42 (cellsB (sum l)) _ _ rfl (Blk.row HFB.out _) Tryd.underlying42 rfl (by rw [HSZ.out]; kernel_rfl)) rfl ?_
                  exact ⟨rfl, below_setRow HBw.out (Nat.le_refl _) _⟩
        · have hz2 : z < padZ l.length := pad_more l z hz (by have h1 := HN.out; have h2 := HMM.out; omega)
          have hb : ((n : Int) % 64 != 56) = true := by rw [bne_iff_ne]; omega
          have hn2 : n + 1 ≤ 128 := by have h1 := HN.out; omega
          have hlt : w.heap.size + 2 ≤ g := (HO.out.lt g rfl).1
          go_wp2_with (at_builtin; refine wpList_append_own _ rfl _ _ 22 rfl (w.heap.size + 2) 5 i0 (.int .u8 0) 1 1 Tryd.underlying22 HII.out H0.out H1.out H2.out rfl (by decide) _ _ _ rfl (HO.out.alloc _) ⟨wr.heap.size, 0, none⟩ 1 1 [.int .u8 0] rfl rfl (cell_one_new _ _ _) (fun u hu => by simp at hu; subst hu; rfl) (by unfold maxLen; omega) (by omega) (by simp; omega) ?_; intro v3 w3 hown3 hgrow3 _)
          have hf3 := hown3.form (by omega)
          obtain ⟨g3, cap3, hv3, hg3, _⟩ := hf3
          rw [hv3] at hown3 ⊢
          have HB3 : Hid (Below (w.heap.size + 2) wr w3) := ((Below.refl _ wr).alloc hsz _).grown hgrow3 (by simp; omega) (fun k h => by cases h; exact hlt)
          refine ⟨⟨z + 1, n + 1, g3, cap3, ?_, by omega, hn2, rfl, ?_, HS.out.below2 HB3.out⟩, by simp; omega⟩
          · have h1 := HN.out; rw [Hid]; omega
          · rw [pad_cells]; exact hown3
end Go.Proofs.YtmaknbcfnigbmaaDoor
