/- NetPlays: both networks, made of the two lists; and the bytes that are changed behind them. -/
import Derived.Test.YtbldognffppeiaaNetCopies
namespace Go.Proofs.Ytbldognffppeiaa
open Go.RowKit Go.Maps
set_option linter.unusedSimpArgs false
set_option linter.unusedVariables false
theorem Copies.filesIn {w : World} {fs : List (ByteArray × List UInt8)} {n iL : Nat} {AO : Option Addr} {cO : Nat} {vL : Value} {RO RL : List (ByteArray × Value)} {W : World} (h : Copies w fs n iL (.slice AO n cO) vL RO RL W) (hn : n = fs.length) : FilesIn W AO fs := fun j f hj => by
  have hjl : j < n := by rw [hn]; exact (List.getElem?_eq_some_iff.1 hj).1
  obtain ⟨r, hr⟩ : ∃ r, RO[j]? = some r := ⟨_, List.getElem?_eq_getElem (by rw [h.lenO]; exact hjl)⟩
  obtain ⟨f', Aj, cj, h1, rfl, h3, h4, h5, h6, _⟩ := h.recO j r hr
  rw [hj] at h1
  injection h1 with h1
  subst h1
  obtain ⟨g, cap, e, hg1, hg2⟩ := h.own.form (by omega)
  injection e with e1 e2 e3
  subst e1 e3
  have hc := recCells_at RO j _ hr
  obtain ⟨A, c, e, _, hrd⟩ := own_reads h6
  injection e with e1
  subst e1
  exact ⟨g, Aj, cj, rfl, (h.own.cellAt (j * 2) (by omega)).trans hc.1, (h.own.cellAt (j * 2 + 1) (by omega)).trans hc.2, h3, h4, h5, hrd⟩
/-- The blocks that the reference reads. -/
def RefS (w : World) (vL : Value) (k : Nat) : Prop := k < w.heap.size ∨ vL.ownBlock = some k
theorem Copies.filesS {w : World} {fs : List (ByteArray × List UInt8)} {n iO : Nat} {AL : Option Addr} {cL : Nat} {vO : Value} {RO RL : List (ByteArray × Value)} {W : World} (h : Copies w fs iO n vO (.slice AL n cL) RO RL W) (hn : n = fs.length) : FilesS (RefS w (.slice AL n cL)) W AL fs := fun j f hj => by
  have hjl : j < n := by rw [hn]; exact (List.getElem?_eq_some_iff.1 hj).1
  obtain ⟨r, hr⟩ : ∃ r, RL[j]? = some r := ⟨_, List.getElem?_eq_getElem (by rw [h.lenL]; exact hjl)⟩
  obtain ⟨f', Aj, cj, h1, rfl, h3, h4, h5, h6⟩ := h.recL j r hr
  rw [hj] at h1
  injection h1 with h1
  subst h1
  obtain ⟨g, cap, e, hg1, hg2⟩ := h.ref.form (by omega)
  injection e with e1 e2 e3
  subst e1 e3
  have hc := recCells_at RL j _ hr
  refine ⟨g, Aj, cj, rfl, .inr rfl, (h.ref.cellAt (j * 2) (by omega)).trans hc.1, (h.ref.cellAt (j * 2 + 1) (by omega)).trans hc.2, h3, h4, h5, fun h0 => ?_⟩
  obtain ⟨ad, e, hcell⟩ := h6 h0
  have h0c := hcell 0 _ (List.getElem?_eq_getElem h0)
  have hlt := World.block_lt_of_cell? w _ h0c
  rw [addr_add_block] at hlt
  exact ⟨ad, e, .inl hlt, fun k b hk => (h.below.cell (World.block_lt_of_cell? w _ (hcell k b hk))).trans (hcell k b hk)⟩
theorem faultsS_of {w W : World} {vL : Value} {B : Option Addr} {zs : List Int} (h : FaultsAt w B zs) (hb : Below w.heap.size w W) : FaultsS (RefS w vL) W B zs := fun j z hj => by
  obtain ⟨ad, e, hc⟩ := h j z hj
  have hlt := World.block_lt_of_cell? w _ hc
  refine ⟨ad, e, .inl ?_, (hb.cell hlt).trans hc⟩
  rwa [addr_add_block] at hlt
open Classical in
noncomputable def newErr (fs : List (ByteArray × List UInt8)) : Int := if 1024 < fs.length ∨ anyBig fs = true then 2 else if Dup fs then 13 else 0
theorem newErr_ok {fs : List (ByteArray × List UInt8)} (h : newErr fs = 0) : ¬ 1024 < fs.length ∧ anyBig fs = false ∧ ¬ Dup fs := by
  unfold newErr at h
  split at h
  · omega
  · rename_i h1
    split at h
    · omega
    · rename_i h2
      refine ⟨fun h => h1 (.inl h), ?_, h2⟩
      cases hb : anyBig fs
      · rfl
      · exact absurd (.inr hb) h1
def NewP (w : World) (fs : List (ByteArray × List UInt8)) (zs : List Int) (p : Option Addr) (w' : World) : Prop :=
  (newErr fs ≠ 0 ∧ p = none) ∨ (newErr fs = 0 ∧ ∃ gn, p = some ⟨gn, 0, none⟩ ∧ NetOf w' gn fs zs 0 w.heap.size w'.heap.size)
def RNewP (S : Nat → Prop) (w : World) (fs : List (ByteArray × List UInt8)) (zs : List Int) (p : Option Addr) (w' : World) : Prop :=
  (newErr fs ≠ 0 ∧ p = none) ∨ (newErr fs = 0 ∧ ∃ rn, w.heap.size ≤ rn ∧ p = some ⟨rn, 0, none⟩ ∧ RefOf S w' rn fs zs 0)
theorem newP_of {w w' : World} {fs : List (ByteArray × List UInt8)} {zs : List Int} {e : Ending} (h : NewSays w fs zs e w') : ∃ p, e = .returned (.tuple #[.pointer p, .int .i64 (newErr fs)]) ∧ NewP w fs zs p w' := by
  rcases h with ⟨h1, rfl⟩ | ⟨h1, h2, h3, rfl⟩ | ⟨h1, h2, h3, gn, rfl, hN⟩
  · have e : newErr fs = 2 := if_pos h1
    exact ⟨none, by rw [e], .inl ⟨by rw [e]; decide, rfl⟩⟩
  · have e : newErr fs = 13 := by unfold newErr; rw [if_neg (by rw [h2]; simpa using h1), if_pos h3]
    exact ⟨none, by rw [e], .inl ⟨by rw [e]; decide, rfl⟩⟩
  · have e : newErr fs = 0 := by unfold newErr; rw [if_neg (by rw [h2]; simpa using h1), if_neg h3]
    exact ⟨_, by rw [e], .inr ⟨e, gn, rfl, hN⟩⟩
theorem rnewP_of {S : Nat → Prop} {w w' : World} {fs : List (ByteArray × List UInt8)} {zs : List Int} {e : Ending} (h : RNewSays S w fs zs e w') : ∃ p, e = .returned (.tuple #[.pointer p, .int .i64 (newErr fs)]) ∧ RNewP S w fs zs p w' := by
  rcases h with ⟨h1, rfl⟩ | ⟨h1, h2, h3, rfl⟩ | ⟨h1, h2, h3, rn, hr, rfl, hN⟩
  · have e : newErr fs = 2 := if_pos h1
    exact ⟨none, by rw [e], .inl ⟨by rw [e]; decide, rfl⟩⟩
  · have e : newErr fs = 13 := by unfold newErr; rw [if_neg (by rw [h2]; simpa using h1), if_pos h3]
    exact ⟨none, by rw [e], .inl ⟨by rw [e]; decide, rfl⟩⟩
  · have e : newErr fs = 0 := by unfold newErr; rw [if_neg (by rw [h2]; simpa using h1), if_neg h3]
    exact ⟨_, by rw [e], .inr ⟨e, rn, hr, rfl, hN⟩⟩
theorem owned_faults2 {w : World} {b : Nat} {v : Value} {zs : List Int} (h : w.ownsRow b 3 1 v zs.length (zs.map (Value.int .i64))) : ∃ B d, v = .slice B zs.length d ∧ FaultsAt w B zs ∧ (B = none → zs.length = 0 ∧ d = 0) := by
  have h0 := h
  obtain ⟨B, d, rfl, h1, _⟩ := owned_faults h
  refine ⟨B, d, rfl, h1, fun e => ?_⟩
  subst e
  rcases h0.2 with ⟨e, hn⟩ | ⟨g, cap, cur, e, _⟩
  · injection e with e1 e2 e3
    exact ⟨hn, e3⟩
  · injection e with e1
    cases e1
theorem news_ints {w W : World} {A : Option Addr} {zs : List Int} (h : FaultsAt w A zs) (hb : Below w.heap.size w W) : ∀ ad, A = some ad → ∀ j u, (zs.map (Value.int .i64))[j]? = some u → W.cell? (ad.add j) = some u := fun ad e j u hj => by
  rw [List.getElem?_map] at hj
  obtain ⟨z, hz, rfl⟩ := Option.map_eq_some_iff.1 hj
  obtain ⟨ad2, e2, h2⟩ := h j z hz
  rw [e] at e2
  injection e2 with e2
  subst e2
  exact (hb.cell (World.block_lt_of_cell? w _ h2)).trans h2
theorem ints_one (zs : List Int) : ∀ u ∈ zs.map (Value.int .i64), u.oneCell' = true := fun u hu => by
  obtain ⟨z, _, rfl⟩ := List.mem_map.1 hu
  rfl
theorem newP_call {w : World} (AO : Option Addr) (fs : List (ByteArray × List UInt8)) (n cO : Nat) (hn : n = fs.length) (hnl : n ≤ maxLen) (B : Option Addr) (zs : List Int) (m d : Nat) (hm : m = zs.length) (hz : m * 8 ≤ 140737488351232) (hB : B = none → m = 0 ∧ d = 0) (W : World)
    {iL : Nat} {vL : Value} {RO RL : List (ByteArray × Value)} (h : Copies w fs n iL (.slice AO n cO) vL RO RL W) (hf : FaultsAt W B zs) :
    Calls Try.prog 10 #[.slice AO n cO, .slice B m d] W fun e w' => ∃ p, e = .returned (.tuple #[.pointer p, .int .i64 (newErr fs)]) ∧ NewP W fs zs p w' ∧ Below W.heap.size W w' := by
  have hc := h.filesIn hn
  subst hn hm
  refine (new_net AO fs cO hnl B zs d (by omega) hB W hc hf).mono ?_
  rintro e w' ⟨h1, h2⟩
  obtain ⟨p, rfl, h3⟩ := newP_of h1
  exact ⟨p, rfl, h3, h2⟩
theorem rnewP_call {w : World} (AL : Option Addr) (fs : List (ByteArray × List UInt8)) (n cL : Nat) (hn : n = fs.length) (hnl : n ≤ maxLen) (B : Option Addr) (zs : List Int) (m d : Nat) (hm : m = zs.length) (W : World)
    {iO : Nat} {vO : Value} {RO RL : List (ByteArray × Value)} (h : Copies w fs iO n vO (.slice AL n cL) RO RL W) (hf : FaultsAt w B zs) :
    Calls Try.prog 11 #[.slice AL n cL, .slice B m d] W fun e w' => ∃ p, e = .returned (.tuple #[.pointer p, .int .i64 (newErr fs)]) ∧ RNewP (RefS w (.slice AL n cL)) W fs zs p w' ∧ Below W.heap.size W w' := by
  have hc := h.filesS hn
  have hlt : ∀ k, RefS w (.slice AL n cL) k → k < W.heap.size := fun k hk => by
    rcases hk with hk | hk
    · exact Nat.lt_of_lt_of_le hk h.below.size
    · exact (own_lt h.ref hk).2
  have hf' := faultsS_of (vL := .slice AL n cL) hf h.below
  subst hm
  obtain ⟨S, hS⟩ : ∃ S, S = RefS w (.slice AL n cL) := ⟨_, rfl⟩
  rw [← hS] at hc hlt hf' ⊢
  clear hS h
  subst hn
  refine (refNew_any S AL fs cL hnl B zs d W hlt hc hf').mono ?_
  rintro e w' ⟨h1, h2⟩
  obtain ⟨p, rfl, h3⟩ := rnewP_of h1
  exact ⟨p, rfl, h3, h2⟩
theorem NewP.isNone {w w' : World} {fs : List (ByteArray × List UInt8)} {zs : List Int} {p : Option Addr} (h : NewP w fs zs p w') : p.isNone = decide (newErr fs ≠ 0) := by
  rcases h with ⟨h, rfl⟩ | ⟨h, gn, rfl, _⟩
  · simp [h]
  · simp [h]
theorem RNewP.isNone {S : Nat → Prop} {w w' : World} {fs : List (ByteArray × List UInt8)} {zs : List Int} {p : Option Addr} (h : RNewP S w fs zs p w') : p.isNone = decide (newErr fs ≠ 0) := by
  rcases h with ⟨h, rfl⟩ | ⟨h, gn, _, rfl, _⟩
  · simp [h]
  · simp [h]
end Go.Proofs.Ytbldognffppeiaa
