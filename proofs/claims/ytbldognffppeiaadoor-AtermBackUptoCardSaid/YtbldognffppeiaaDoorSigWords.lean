/- Words for memory: a slice that reads as bytes, nil let in. -/
import Derived.Test.YtbldognffppeiaaDoorProg
import Derived.Test.YtbldognffppeiaaDoorSig
import Derived.WalkKit
import Derived.Deep.Draws
import Derived.Lib.Hide
import Derived.Laws.BitsAllLaws
namespace Go.Proofs.YtbldognffppeiaaDoor
open Go.RowKit

/-- The slice at A reads as these bytes. -/
def ReadsB (w : World) (A : Option Addr) (l : List UInt8) : Prop :=
  0 < l.length → ∃ ad, A = some ad ∧ ∀ (j : Nat) (b : UInt8), l[j]? = some b → w.cell? (ad.add j) = some (.int .u8 (b.toNat : Int))
theorem ReadsB.nil (w : World) (A : Option Addr) : ReadsB w A [] := fun h => absurd h (by simp)
theorem ReadsB.at_ {w : World} {A : Option Addr} {l : List UInt8} (h : ReadsB w A l) (j : Nat) (hj : j < l.length) : ∃ ad, A = some ad ∧ w.cell? (ad.add j) = some (.int .u8 (l[j].toNat : Int)) := by
  obtain ⟨ad, e, hc⟩ := h (by omega)
  exact ⟨ad, e, hc j _ (List.getElem?_eq_getElem hj)⟩
theorem ReadsB.below {w w1 : World} {A : Option Addr} {l : List UInt8} (h : ReadsB w A l) (hb : Below w.heap.size w w1) : ReadsB w1 A l := fun hn => by
  obtain ⟨ad, e, hc⟩ := h hn
  exact ⟨ad, e, fun j b hj => (hb.cell (World.block_lt_of_cell? w _ (hc j b hj))).trans (hc j b hj)⟩
theorem ReadsB.drewN {w : World} {A : Option Addr} {l : List UInt8} (h : ReadsB w A l) (n : Nat) : ReadsB (w.drewN n) A l := h
theorem below_drewN' {B : Nat} {w W : World} (h : Below B w W) (n : Nat) : Below B w (W.drewN n) := ⟨h.os, h.tape, h.output, h.size, h.block⟩
theorem below_step' {w W w2 : World} (h : Below w.heap.size w W) (k : Below W.heap.size W w2) : Below w.heap.size w w2 :=
  h.trans ⟨k.os, k.tape, k.output, k.size, fun i hi => k.block i (Nat.lt_of_lt_of_le hi h.size)⟩
end Go.Proofs.YtbldognffppeiaaDoor
