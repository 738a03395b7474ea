/- Words for memory: a slice that reads as bytes, nil let in. Words for arrays: an array by value that is indexed; a block that is known whole; bytes as cells. Words for memory: words of 32 bits as cells. Steps of a region that draws its order, one at a time: the library's laws on what may be taken first, with the operation laid out by its parts. (The library's tactic takes no second load of a long array in one region.) -/
import Derived.Test.YtmaknbcfnigbmaaDoorProg
import Derived.Test.YtmaknbcfnigbmaaDoorPlain
import Derived.WalkKit
import Derived.Deep.Draws
import Derived.Lib.Hide
import Derived.Laws.BitsAllLaws
import Derived.Laws.Rows
import Derived.Laws.NewBlocks
import Derived.Laws.CopyOwn
import Derived.Deep.RegionHeld3
import Derived.Deep.MidRow
import Derived.Laws.Tables
import Derived.StillTailTactics
namespace Go.Proofs.YtmaknbcfnigbmaaDoor
open Go.RowKit

/-- The slice at A reads as these bytes. -/
def ReadsB (w : World) (A : Option Addr) (l : List UInt8) : Prop :=
  0 < l.length → ∃ ad, A = some ad ∧ ∀ (j : Nat) (b : UInt8), l[j]? = some b → w.cell? (ad.add j) = some (.int .u8 (b.toNat : Int))
theorem ReadsB.nil (w : World) (A : Option Addr) : ReadsB w A [] := fun h => absurd h (by simp)
theorem ReadsB.at_ {w : World} {A : Option Addr} {l : List UInt8} (h : ReadsB w A l) (j : Nat) (hj : j < l.length) : ∃ ad, A = some ad ∧ w.cell? (ad.add j) = some (.int .u8 (l[j].toNat : Int)) := by
  obtain ⟨ad, e, hc⟩ := h (by omega)
  exact ⟨ad, e, hc j _ (List.getElem?_eq_getElem hj)⟩
theorem ReadsB.below {w w1 : World} {A : Option Addr} {l : List UInt8} (h : ReadsB w A l) (hb : Below w.heap.size w w1) : ReadsB w1 A l := fun hn => by
  obtain ⟨ad, e, hc⟩ := h hn
  exact ⟨ad, e, fun j b hj => (hb.cell (World.block_lt_of_cell? w _ (hc j b hj))).trans (hc j b hj)⟩
theorem ReadsB.drewN {w : World} {A : Option Addr} {l : List UInt8} (h : ReadsB w A l) (n : Nat) : ReadsB (w.drewN n) A l := h
theorem below_drewN' {B : Nat} {w W : World} (h : Below B w W) (n : Nat) : Below B w (W.drewN n) := ⟨h.os, h.tape, h.output, h.size, h.block⟩
theorem below_step' {w W w2 : World} (h : Below w.heap.size w W) (k : Below W.heap.size W w2) : Below w.heap.size w w2 :=
  h.trans ⟨k.os, k.tape, k.output, k.size, fun i hi => k.block i (Nat.lt_of_lt_of_le hi h.size)⟩
end Go.Proofs.YtmaknbcfnigbmaaDoor

namespace Go.Proofs.YtmaknbcfnigbmaaDoor
open Go.RowKit

/-- An array by value, of elements of one cell, indexed within its bounds. -/
theorem run_index_one {P : Program} {t e : TypeId} {n : Nat} (ht : P.underlying t = some (.array n e)) (ha : ∀ w, (isAgg e).run P w = .ok false w) (hs : ∀ w, (Go.sizeOf e).run P w = .ok 1 w)
    (cs : Array Value) (k : IntKind) (i : Nat) (v : Value) (hi : i < n) (hc : cs[i]? = some v) (w : World) : (Instr.index t (.agg cs) (.int k (i : Int))).run P w = .ok v w := by
  simp [Instr.index, run_underlying ht, asIntOf, go_sem, hs, part, ha, hc, hi]

/-- Bytes as cells. -/
def cellsB (l : List UInt8) : Array Value := (l.map fun b => Value.int .u8 (b.toNat : Int)).toArray
theorem cellsB_size (l : List UInt8) : (cellsB l).size = l.length := by simp [cellsB]
theorem cellsB_get (l : List UInt8) (i : Nat) (h : i < l.length) : (cellsB l)[i]? = some (.int .u8 (l[i].toNat : Int)) := by simp [cellsB, h]
theorem cellsB_set (l : List UInt8) (i : Nat) (b : UInt8) : (cellsB l).setIfInBounds i (.int .u8 (b.toNat : Int)) = cellsB (l.set i b) := by
  simp [cellsB, List.map_set]

/-- Block g is just these cells, none frozen. -/
def Blk (w : World) (g : Nat) (t : TypeId) (cs : Array Value) : Prop := w.heap[g]? = some (.cells cs t (0, 0))
section
variable {w w' : World} {g : Nat} {t : TypeId} {cs : Array Value}
theorem Blk.lt (h : Blk w g t cs) : g < w.heap.size := by
  rcases Nat.lt_or_ge g w.heap.size with hlt | hge
  · exact hlt
  · unfold Blk at h; rw [Array.getElem?_eq_none hge] at h; cases h
theorem Blk.cell (h : Blk w g t cs) (i : Nat) : w.cell? ⟨g, i, none⟩ = cs[i]? := cell_of_row w g i cs t (0, 0) h
theorem Blk.frozen (h : Blk w g t cs) (i : Nat) : w.frozen? ⟨g, i, none⟩ = false := by
  unfold Blk at h
  simp [World.frozen?, h]
theorem Blk.new (w : World) (t : TypeId) (cs : Array Value) : Blk (w.alloc (.cells cs t)) w.heap.size t cs := heap_alloc_new w _
theorem Blk.drewN (h : Blk w g t cs) (n : Nat) : Blk (w.drewN n) g t cs := h
theorem Blk.alloc (h : Blk w g t cs) (o : Obj) : Blk (w.alloc o) g t cs := (Below.heap_alloc w o g h.lt).trans h
theorem Blk.set_ (h : Blk w g t cs) (i : Nat) (u : Value) : Blk (w.setCell ⟨g, i, none⟩ u) g t (cs.setIfInBounds i u) := by
  unfold Blk at h ⊢
  simp [World.setCell, Array.getElem?_modify, h]
theorem Blk.far (h : Blk w g t cs) {p : Addr} (hp : g ≠ p.block) (u : Value) : Blk (w.setCell p u) g t cs := (Below.heap_setCell w p u g hp).trans h
theorem Blk.below {B : Nat} (h : Blk w g t cs) (hb : Below B w w') (hg : g < B) : Blk w' g t cs := (hb.block g hg).trans h
end
/-- A whole array read out of its block, where the operation's guard says yes. -/
theorem wpList_load_row_if {P : Program} {ops : Array Oper} {rest : List Oper} {o : Oper} {a : Act} {w : World} {Q : Exit → Act → World → Prop} (hw : Region.wanted o (yielded ops a.tmps) = true) (ty : TypeId) (x : Operand) (ho : o.op = .load ty x)
    (g : Nat) (hx : a.eval x = .pointer (some ⟨g, 0, none⟩)) (t : TypeId) (cs : Array Value) (fr : Nat × Nat) (d : TypeDesc) (hg : w.heap[g]? = some (.cells cs t fr))
    (hu : P.underlying ty = some d) (hd : (match d with | .struct _ | .array _ _ => true | _ => false) = true) (hi : (P.info? ty).map (·.size) = some cs.size)
    (h : wpList P ops Q rest (a.put o.dst (.agg cs)) w) : wpList P ops Q (o :: rest) a w := by
  unfold wpList
  rw [if_pos hw]
  exact .inl (wp_load_row ty x ho g hx t cs fr d hg hu hd hi h)
theorem blk_alloc2 (w : World) (o : Obj) (t : TypeId) (cs : Array Value) : Blk ((w.alloc o).alloc (.cells cs t)) (w.heap.size + 1) t cs := by
  have h := Blk.new (w.alloc o) t cs
  simp only [World.size_alloc] at h
  exact h
theorem Blk.row {w : World} {g : Nat} {t : TypeId} {cs : Array Value} (h : Blk w g t cs) (ds : Array Value) : Blk (w.setRow g ds) g t ds := setRow_heap w g cs ds t (0, 0) h
theorem Blk.rowFar {w : World} {g g' : Nat} {t : TypeId} {cs : Array Value} (h : Blk w g t cs) (hne : g ≠ g') (ds : Array Value) : Blk (w.setRow g' ds) g t cs := (setRow_other w g' g ds hne).trans h
theorem cellsB_one (l : List UInt8) : (cellsB l).all (·.oneCell') = true := by simp [cellsB, Value.oneCell']
/-- A block of bytes reads as bytes. -/
theorem Blk.reads {w : World} {g : Nat} {t : TypeId} {l : List UInt8} (h : Blk w g t (cellsB l)) : ReadsB w (some ⟨g, 0, none⟩) l := fun _ =>
  ⟨⟨g, 0, none⟩, rfl, fun j b hj => by
    have hlt : j < l.length := by
      rcases Nat.lt_or_ge j l.length with h1 | h1
      · exact h1
      · rw [List.getElem?_eq_none h1] at hj; cases hj
    rw [List.getElem?_eq_getElem hlt] at hj
    have e : (⟨g, 0, none⟩ : Addr).add j = ⟨g, j, none⟩ := by unfold Addr.add; split <;> simp_all
    rw [e, h.cell, cellsB_get l j hlt]
    injection hj with hj
    rw [hj]⟩
end Go.Proofs.YtmaknbcfnigbmaaDoor

namespace Go.Proofs.YtmaknbcfnigbmaaDoor
open Go.RowKit Sha

/-- Words as cells. -/
def cellsW (l : List UInt32) : Array Value := (l.map fun b => Value.int .u32 (b.toNat : Int)).toArray
theorem cellsW_size (l : List UInt32) : (cellsW l).size = l.length := by simp [cellsW]
theorem cellsW_get (l : List UInt32) (i : Nat) (h : i < l.length) : (cellsW l)[i]? = some (.int .u32 (l[i].toNat : Int)) := by simp [cellsW, h]
theorem cellsW_getD (l : List UInt32) (i : Nat) (h : i < l.length) : (cellsW l)[i]? = some (.int .u32 ((l.getD i 0).toNat : Int)) := by simp [cellsW, h]
theorem cellsW_set (l : List UInt32) (i : Nat) (b : UInt32) : (cellsW l).setIfInBounds i (.int .u32 (b.toNat : Int)) = cellsW (l.set i b) := by
  simp [cellsW, List.map_set]
theorem cellsW_one (l : List UInt32) : (cellsW l).all (·.oneCell') = true := by simp [cellsW, Value.oneCell']

theorem ad_int (a b : UInt32) : ((a.toNat : Int) + (b.toNat : Int)) % 4294967296 = ((ad a b).toNat : Int) := by
  have h : (ad a b).toNat = (a.toNat + b.toNat) % 4294967296 := UInt32.toNat_add a b
  rw [h]; omega
theorem xo_int' (a b : UInt32) : bits .xor .u32 (a.toNat : Int) (b.toNat : Int) = ((xo a b).toNat : Int) := by
  rw [u32_xor_nat _ _ a.toNat_lt b.toNat_lt]; rfl
theorem an_int (a b : UInt32) : bits .and .u32 (a.toNat : Int) (b.toNat : Int) = ((an a b).toNat : Int) := by
  rw [u32_and_nat _ _ a.toNat_lt b.toNat_lt]; rfl
theorem oo_int (a b : UInt32) : bits .or .u32 (a.toNat : Int) (b.toNat : Int) = ((oo a b).toNat : Int) := by
  rw [u32_or_nat _ _ a.toNat_lt b.toNat_lt]; rfl
theorem bn_int (a b : UInt32) : bits .andNot .u32 (a.toNat : Int) (b.toNat : Int) = ((bn a b).toNat : Int) := by
  rw [u32_andNot_nat _ _ a.toNat_lt b.toNat_lt]
  have h : (~~~b).toNat = 4294967295 - b.toNat := by
    rw [UInt32.toNat_not]; rfl
  unfold bn
  rw [UInt32.toNat_and, h]
theorem sr_int (n : Nat) (a : UInt32) : (a.toNat : Int) / 2 ^ n = ((sr n a).toNat : Int) := by
  unfold sr
  rw [UInt32.toNat_ofNat', Nat.mod_eq_of_lt (Nat.lt_of_le_of_lt (Nat.div_le_self _ _) a.toNat_lt), Int.natCast_ediv, Int.natCast_pow]
  rfl

theorem ad3_int (a b c : UInt32) : ((a.toNat : Int) + (b.toNat : Int) + (c.toNat : Int)) % 4294967296 = ((ad (ad a b) c).toNat : Int) := by
  rw [← ad_int, ← ad_int]; omega
theorem ad4_int (a b c d : UInt32) : ((a.toNat : Int) + (b.toNat : Int) + (c.toNat : Int) + (d.toNat : Int)) % 4294967296 = ((ad (ad (ad a b) c) d).toNat : Int) := by
  rw [← ad_int, ← ad_int, ← ad_int]; omega
theorem ad5_int (a b c d e : UInt32) : ((a.toNat : Int) + (b.toNat : Int) + (c.toNat : Int) + (d.toNat : Int) + (e.toNat : Int)) % 4294967296 = ((ad (ad (ad (ad a b) c) d) e).toNat : Int) := by
  rw [← ad_int, ← ad_int, ← ad_int, ← ad_int]; omega
theorem sr3_int (a : UInt32) : (a.toNat : Int) / 8 = ((sr 3 a).toNat : Int) := sr_int 3 a
theorem sr10_int (a : UInt32) : (a.toNat : Int) / 1024 = ((sr 10 a).toNat : Int) := sr_int 10 a
/-- The words that are laid after k rounds. -/
def laidW (b : List UInt8) (k : Nat) : List UInt32 := wds b k ++ List.replicate (64 - k) 0
theorem laidW_length (b : List UInt8) (k : Nat) (h : k ≤ 64) : (laidW b k).length = 64 := by simp [laidW, wds_length]; omega
theorem laidW_set (b : List UInt8) (k : Nat) (h : k < 64) (v : UInt32) (hv : v = if k < 16 then word b k else nextW (wds b k) k) : (laidW b k).set k v = laidW b (k + 1) := by
  unfold laidW
  have e : List.replicate (64 - k) (0 : UInt32) = 0 :: List.replicate (64 - (k + 1)) 0 := by
    rw [show 64 - k = (64 - (k + 1)) + 1 by omega, List.replicate_succ]
  rw [e, List.set_append_right _ _ (by rw [wds_length]; omega), wds_length, Nat.sub_self, List.set_cons_zero, wds, ← hv, List.append_assoc]
  rfl
theorem laidW_at (b : List UInt8) (k i : Nat) (h : i < k) : (laidW b k).getD i 0 = (wds b k).getD i 0 := by
  unfold laidW
  rw [List.getD_eq_getElem?_getD, List.getElem?_append_left (by rw [wds_length]; exact h), ← List.getD_eq_getElem?_getD]
theorem laidW_full (b : List UInt8) : laidW b 64 = wds b 64 := by simp [laidW]
end Go.Proofs.YtmaknbcfnigbmaaDoor

namespace Go.Proofs.YtmaknbcfnigbmaaDoor
open Go
section
variable {P : Program} {ops : Array Oper} {Q : Exit → Act → World → Prop} {S : World → Prop}
theorem takeO {md : Region.Mode} {i : Nat} {d : Option Tmp} {op : Go.Op} {ty : TypeId} {pos : String} {af : Array Edge} {g : Option (Nat × Bool)} {v : Value} {fuel : Nat} {listed : Array Bool} {a : Act} {w : World} (hi : ops[i]? = some ⟨d, op, ty, pos, af, g⟩)
    (hs : Region.noSelect ops = true) (hf : Region.free md ops listed i = true) (hr : (Region.ready md ops listed).contains i = true)
    (hQ : ∀ c a w, Q (.panic c) (a.put d v) w → Q (.panic c) a w) (hS : S w) (hy : YieldsIf P ops S ⟨d, op, ty, pos, af, g⟩ v a)
    (h : wpAnyH P md ops Q S fuel (listed.setIfInBounds i true) (a.put d v) w) : wpAnyH P md ops Q S (fuel + 1) listed a w :=
  wpAnyH_take hi hs hf hr hQ hy hS h
/-- A store of a whole array into its own block, where it alone may come up. -/
theorem storeO {md : Region.Mode} {i : Nat} {d : Option Tmp} {t0 ty : TypeId} {x y : Operand} {pos : String} {af : Array Edge} {fuel : Nat} {listed : Array Bool} {a : Act} {w : World} (hr : Region.ready md ops listed = [i]) (ho : ops[i]? = some ⟨d, .store ty x y, t0, pos, af, none⟩)
    (g : Nat) (cells : Array Value) (hx : a.eval x = .pointer (some ⟨g, 0, none⟩)) (hy : a.eval y = .agg cells)
    (t : TypeId) (old : Array Value) (hg : w.heap[g]? = some (.cells old t (0, 0))) (hi : (P.info? ty).map (·.size) = some cells.size)
    (hold : old.size = cells.size) (h1 : cells.all (·.oneCell') = true) (hS : S (w.setRow g cells))
    (h : S (w.setRow g cells) → wpAnyH P md ops Q S fuel (listed.setIfInBounds i true) (a.put d undef) (w.setRow g cells)) : wpAnyH P md ops Q S (fuel + 1) listed a w := by
  refine wpAnyH_ready hr (by simp) (AllReadyH.cons ho (fun K hK => ?_) AllReadyH.nil)
  rw [if_pos (by simp [Region.wanted])]
  exact wp_store_row ty x y rfl g cells hx hy t old hg hi hold h1 (hK.out _ _ hS h)
end
/-- A load of a whole array, among operations that leave the world alone. -/
theorem stillO {P : Program} {ops : Array Oper} {w : World} {Q : Act → Prop} {rest : List Oper} {o : Oper} {a : Act} (hgd : o.guard = none) (ty : TypeId) (x : Operand) (ho : o.op = .load ty x)
    (b off : Nat) (hx : a.eval x = .pointer (some ⟨b, off, none⟩)) (cs : List Value) (d : TypeDesc) (hc : w.rangeAt b off cs)
    (hu : P.underlying ty = some d) (hd : d.isRow = true) (hi : (P.info? ty).map (·.size) = some cs.length)
    (h : wpStill P ops w Q rest (a.put o.dst (.agg cs.toArray))) : wpStill P ops w Q (o :: rest) a := by
  refine wpStill_step (fun K hK => ?_)
  rw [if_pos (by simp [Region.wanted, hgd])]
  unfold Oper.still execOp
  simp only [ho, hx, Instr.loadAt, Instr.sureAddr, Sem.run_bind, Sem.run_pure, Result.andThen_ok, run_loadVar_mid w b off ty cs d hc hu hd hi]
  exact ⟨rfl, hK _ h⟩
end Go.Proofs.YtmaknbcfnigbmaaDoor
