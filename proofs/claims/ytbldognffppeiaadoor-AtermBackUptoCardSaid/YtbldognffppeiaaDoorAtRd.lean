/- What a reader does to memory: its own block may turn, no other one. -/
import Derived.Test.YtbldognffppeiaaDoorAtParseL
namespace Go.Proofs.YtbldognffppeiaaDoor
open Go.RowKit Quo
set_option linter.unusedSimpArgs false
set_option linter.unusedVariables false
/-- The world with a block made blank. -/
def wipe (g : Nat) (w : World) : World := { w with heap := w.heap.setIfInBounds g (.cells #[] 0 (0, 0)) }
def Kept (g : Nat) (w w' : World) : Prop := w.grownBy w' (some g)
section
variable {g : Nat} {w w' w2 : World} {A : Option Addr}
theorem wipe_size : (wipe g w).heap.size = w.heap.size := by simp [wipe]
theorem wipe_same (h : g < w.heap.size) : (wipe g w).heap[g]? = some (.cells #[] 0 (0, 0)) := by simp [wipe, h]
theorem wipe_other {k : Nat} (h : k ≠ g) : (wipe g w).heap[k]? = w.heap[k]? := by simp [wipe, Array.getElem?_setIfInBounds_ne (Ne.symm h)]
theorem wipe_cell {p : Addr} {v : Value} (h : (wipe g w).cell? p = some v) : w.cell? p = some v := by
  by_cases hp : p.block = g
  · exfalso
    unfold World.cell? at h
    by_cases hg : g < w.heap.size
    · rw [hp, wipe_same hg] at h
      simp at h
    · rw [hp, Array.getElem?_eq_none (by rw [wipe_size]; omega)] at h
      cases h
  · rw [← h]
    exact (World.cell?_of_block (wipe_other hp)).symm
theorem wipe_of {p : Addr} (hp : p.block ≠ g) : (wipe g w).cell? p = w.cell? p := World.cell?_of_block (wipe_other hp)
theorem Kept.refl (g : Nat) (w : World) : Kept g w w := World.grownBy.refl w _
theorem Kept.trans (h : Kept g w w') (k : Kept g w' w2) : Kept g w w2 := ⟨k.os.trans h.os, k.tape.trans h.tape, k.output.trans h.output, Nat.le_trans h.size k.size, fun i hi hne => (k.block i (Nat.lt_of_lt_of_le hi h.size) hne).trans (h.block i hi hne)⟩
theorem Kept.belowB {B : Nat} (h : Kept g w w') (hb : Below B w' w2) (hB : w.heap.size ≤ B) : Kept g w w2 := ⟨hb.os.trans h.os, hb.tape.trans h.tape, hb.output.trans h.output, Nat.le_trans h.size hb.size, fun i hi hne => (hb.block i (Nat.lt_of_lt_of_le hi hB)).trans (h.block i hi hne)⟩
theorem Kept.below (h : Kept g w w') (hb : Below w'.heap.size w' w2) : Kept g w w2 := h.trans ⟨hb.os, hb.tape, hb.output, hb.size, fun k hk _ => hb.block k hk⟩
theorem Kept.set (h : Kept g w w') (i : Nat) (u : Value) : Kept g w (w'.setCell ⟨g, i, none⟩ u) := h.trans ⟨rfl, rfl, rfl, by simp [World.setCell], fun k _ hne => Below.heap_setCell w' _ u k (fun e => hne (by rw [e]))⟩
theorem Kept.alloc (h : Kept g w w') (o : Obj) : Kept g w (w'.alloc o) := h.below ((Below.refl _ _).alloc (Nat.le_refl _) o)
theorem Kept.drewN (h : Kept g w w') (n : Nat) : Kept g w (w'.drewN n) := ⟨h.os, h.tape, h.output, h.size, h.block⟩
theorem Kept.wipe (h : Kept g w w') : Below w.heap.size (wipe g w) (wipe g w') := by
  refine ⟨h.os, h.tape, h.output, by rw [wipe_size, wipe_size]; exact h.size, fun k hk => ?_⟩
  by_cases hkg : k = g
  · subst hkg
    rw [wipe_same hk, wipe_same (Nat.lt_of_lt_of_le hk h.size)]
  · rw [wipe_other hkg, wipe_other hkg]
    exact h.block k hk (fun e => hkg (by injection e))
theorem Kept.wipe' (h : Kept g w w') : Below (YtbldognffppeiaaDoor.wipe g w).heap.size (YtbldognffppeiaaDoor.wipe g w) (YtbldognffppeiaaDoor.wipe g w') := by rw [wipe_size]; exact h.wipe
/-- A world that knows nothing of the reader's block stays below. -/
theorem Kept.rest {n : Nat} (h : Kept g w w') (hg : n ≤ g) (hn : n ≤ w.heap.size) : Below n w w' := ⟨h.os, h.tape, h.output, h.size, fun k hk => h.block k (by omega) (fun e => by injection e; omega)⟩
theorem StrsAt.unwipe {l : List ByteArray} (h : StrsAt (wipe g w) A l) : StrsAt w A l := fun j s hj => by
  obtain ⟨b, o, h1, h2⟩ := h j s hj
  exact ⟨b, o, h1, wipe_cell h2⟩
theorem OutsAt.unwipe {l : List (ByteArray × ByteArray × ByteArray)} (h : OutsAt (wipe g w) A l) : OutsAt w A l := fun j x hj => by
  obtain ⟨b, o, h1, h2, h3, h4⟩ := h j x hj
  exact ⟨b, o, h1, wipe_cell h2, wipe_cell h3, wipe_cell h4⟩
theorem PairsAt.unwipe {l : List (ByteArray × ByteArray)} (h : PairsAt (wipe g w) A l) : PairsAt w A l := fun j x hj => by
  obtain ⟨b, o, h1, h2, h3⟩ := h j x hj
  exact ⟨b, o, h1, wipe_cell h2, wipe_cell h3⟩
theorem Tabs.unwipe (h : Tabs (wipe g w)) : Tabs w := ⟨fun j hj => wipe_cell (h.1 j hj), fun j hj => wipe_cell (h.2 j hj)⟩
theorem Tabs.wipe (h : Tabs w) (hg : 1 < g) : Tabs (wipe g w) := ⟨fun j hj => (wipe_of (show (0 : Nat) ≠ g by omega)).trans (h.1 j hj), fun j hj => (wipe_of (show (1 : Nat) ≠ g by omega)).trans (h.2 j hj)⟩
theorem kept_to_wipe (g : Nat) (w : World) : w.grownBy (YtbldognffppeiaaDoor.wipe g w) (some g) := ⟨rfl, rfl, rfl, by rw [wipe_size]; exact Nat.le_refl _, fun k _ hne => wipe_other (fun e => hne (by rw [e]))⟩
theorem own_ne {base : Nat} {e : TypeId} {s : Nat} {v : Value} {n : Nat} {xs : List Value} (h : w.ownsRow base e s v n xs) (hg : g < base) : v.ownBlock = none ∨ v.ownBlock ≠ some g := by
  cases hv : v.ownBlock with
  | none => exact .inl rfl
  | some b => exact .inr (fun e => by have h1 := own_lt h hv; have e2 : b = g := by injection e
                                      omega)
theorem own_wipe {base : Nat} {e : TypeId} {s : Nat} {v : Value} {n : Nat} {xs : List Value} (h : w.ownsRow base e s v n xs) (hg : g < base) : (wipe g w).ownsRow base e s v n xs := h.kept (kept_to_wipe g w) (own_ne h hg)
theorem own_keptK {base : Nat} {e : TypeId} {s : Nat} {v : Value} {n : Nat} {xs : List Value} (h : w.ownsRow base e s v n xs) (hg : g < base) (hk : Kept g w w') : w'.ownsRow base e s v n xs := h.kept hk (own_ne h hg)
end
end Go.Proofs.YtbldognffppeiaaDoor
