/- NetPlays: the bytes that are changed behind the network. -/
import Derived.Test.YtbldognffppeiaaNetBoth
namespace Go.Proofs.Ytbldognffppeiaa
open Go.RowKit Go.Maps
set_option linter.unusedSimpArgs false
set_option linter.unusedVariables false
def InRows (RO : List (ByteArray × Value)) (k : Nat) : Prop := ∃ (j : Nat) (r : ByteArray × Value), RO[j]? = some r ∧ r.2.ownBlock = some k
structure Bumped (RO : List (ByteArray × Value)) (b0 : Nat) (w6 W : World) : Prop where
  below : Below b0 w6 W
  same : ∀ k, ¬ InRows RO k → W.heap[k]? = w6.heap[k]?
  rows : ∀ (j : Nat) (r : ByteArray × Value), RO[j]? = some r → ∃ (l : List UInt8) (Aj : Option Addr) (cj : Nat), r.2 = .slice Aj l.length cj ∧ W.ownsRow b0 5 1 (.slice Aj l.length cj) l.length (cellsB l).toList
theorem Copies.bumped {w : World} {fs : List (ByteArray × List UInt8)} {iO iL : Nat} {vO vL : Value} {RO RL : List (ByteArray × Value)} {W : World} (h : Copies w fs iO iL vO vL RO RL W) : Bumped RO w.heap.size W W :=
  ⟨Below.refl _ _, fun _ _ => rfl, fun j r hr => by
    obtain ⟨f, Aj, cj, h1, rfl, h3, h4, h5, h6, _⟩ := h.recO j r hr
    exact ⟨f.2, Aj, cj, rfl, h6⟩⟩
theorem bump_int (x : UInt8) : ((x.toNat : Int) + 1) % 256 = (((x + 1 : UInt8).toNat : Nat) : Int) := by
  have : (x + 1).toNat = (x.toNat + 1) % 256 := UInt8.toNat_add x 1
  rw [this]
  omega
theorem ownsRow_bump {W : World} {b0 : Nat} {A : Option Addr} {c : Nat} {l : List UInt8} (h : W.ownsRow b0 5 1 (.slice A l.length c) l.length (cellsB l).toList) (g k : Nat) (b : UInt8) :
    ∃ l' : List UInt8, l'.length = l.length ∧ (W.setCell ⟨g, k, none⟩ (.int .u8 (b.toNat : Int))).ownsRow b0 5 1 (.slice A l.length c) l.length (cellsB l').toList := by
  by_cases hg : (Value.slice A l.length c).ownBlock = some g
  · rcases h.2 with ⟨e, hn⟩ | ⟨g', cap, cur, e, _⟩
    · injection e with e1 e2 e3
      subst e1
      cases hg
    · injection e with e1 e2 e3
      subst e1
      have e4 : g' = g := by injection hg
      subst e4
      refine ⟨l.set k b, List.length_set .., ?_⟩
      have hs := (h.stored k (.int .u8 (b.toNat : Int))).1
      have e5 : (cellsB l).toList.set k (.int .u8 (b.toNat : Int)) = (cellsB (l.set k b)).toList := by
        rw [← cellsB_set]
        simp
      rw [e5] at hs
      exact hs
  · refine ⟨l, rfl, h.kept (row := some g) ⟨rfl, rfl, rfl, by simp [World.setCell], fun i _ hne => Below.heap_setCell W ⟨g, k, none⟩ _ i (fun e => hne (by rw [e]))⟩ (.inr hg)⟩
theorem Bumped.put {RO : List (ByteArray × Value)} {b0 : Nat} {w6 W : World} (h : Bumped RO b0 w6 W) {g : Nat} (hg : InRows RO g) (hb : b0 ≤ g) (k : Nat) (b : UInt8) : Bumped RO b0 w6 (W.setCell ⟨g, k, none⟩ (.int .u8 (b.toNat : Int))) :=
  ⟨h.below.setCell (p := ⟨g, k, none⟩) hb _, fun i hi => (Below.heap_setCell W ⟨g, k, none⟩ _ i (fun e => hi (by have e2 : i = g := e; rw [e2]; exact hg))).trans (h.same i hi), fun j r hr => by
    obtain ⟨l, Aj, cj, h1, h2⟩ := h.rows j r hr
    obtain ⟨l', hl', h3⟩ := ownsRow_bump h2 g k b
    exact ⟨l', Aj, cj, by rw [hl']; exact h1, by rw [hl']; exact h3⟩⟩
theorem Bumped.drewN {RO : List (ByteArray × Value)} {b0 : Nat} {w6 W : World} (h : Bumped RO b0 w6 W) (n : Nat) : Bumped RO b0 w6 (W.drewN n) := ⟨below_drewN' h.below n, h.same, h.rows⟩
/-- A byte of the i-th file, as it stands. -/
theorem Bumped.byte {RO : List (ByteArray × Value)} {b0 : Nat} {w6 W : World} (h : Bumped RO b0 w6 W) {j : Nat} {nm : ByteArray} {Aj : Option Addr} {ln cj : Nat} (hr : RO[j]? = some (nm, .slice Aj ln cj)) {k : Nat} (hk : k < ln) :
    ∃ g x, Aj = some ⟨g, 0, none⟩ ∧ b0 ≤ g ∧ InRows RO g ∧ W.cell? ⟨g, k, none⟩ = some (.int .u8 ((x : UInt8).toNat : Int)) ∧ W.frozen? ⟨g, k, none⟩ = false := by
  obtain ⟨l, A, c, e, h2⟩ := h.rows j _ hr
  injection e with e1 e2 e3
  subst e1 e2 e3
  obtain ⟨g, cap, e, hg, _⟩ := h2.form (by omega)
  injection e with e1 e2 e3
  subst e1 e3
  have hx : (cellsB l).toList[k]? = some (.int .u8 (l[k].toNat : Int)) := by simp [cellsB, hk]
  exact ⟨g, l[k], rfl, hg, ⟨j, _, hr, rfl⟩, (h2.cellAt k (by omega)).trans hx, h2.frozenAt k⟩
/-- The i-th file's place in the own list, as it stands. -/
theorem Copies.slot {w : World} {fs : List (ByteArray × List UInt8)} {n iL : Nat} {AO : Option Addr} {cO : Nat} {vL : Value} {RO RL : List (ByteArray × Value)} {W : World} (h : Copies w fs n iL (.slice AO n cO) vL RO RL W) {i : Nat} (hi : i < n) :
    ∃ g nm Aj ln cj, AO = some ⟨g, 0, none⟩ ∧ RO[i]? = some (nm, .slice Aj ln cj) ∧ ln ≤ cj ∧ cj ≤ maxLen ∧ ∀ W', Bumped RO w.heap.size W W' → W'.cell? ⟨g, i * 2 + 1, none⟩ = some (.slice Aj ln cj) := by
  obtain ⟨r, hr⟩ : ∃ r, RO[i]? = some r := ⟨_, List.getElem?_eq_getElem (by rw [h.lenO]; exact hi)⟩
  obtain ⟨f, Aj, cj, h1, rfl, h3, h4, h5, h6, h7, h8⟩ := h.recO i r hr
  obtain ⟨g, cap, e, hg1, hg2⟩ := h.own.form (by omega)
  injection e with e1 e2 e3
  subst e1 e3
  have hc := recCells_at RO i _ hr
  refine ⟨g, f.1, Aj, f.2.length, cj, rfl, hr, h3, h4, fun W' hb => ?_⟩
  refine (cell_kept (hb.same g ?_)).trans ((h.own.cellAt (i * 2 + 1) (by omega)).trans hc.2)
  rintro ⟨j, r, hr2, hg⟩
  obtain ⟨f', Aj', cj', _, rfl, _, _, _, _, h7', _⟩ := h.recO j r hr2
  exact h7' g hg rfl
end Go.Proofs.Ytbldognffppeiaa
