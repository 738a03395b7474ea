/- Words for a row: a slice of arrays of bytes, a slice of ints; nil let in. -/
import Derived.Test.YtmaknbcfnigbmaaDoorOpenPair
import Derived.Test.YtmaknbcfnigbmaaDoorWalkCounts
namespace Go.Proofs.YtmaknbcfnigbmaaDoor
open Go.ChangeShapes Go.WideShapes Go.ChangeAt Go.RowKit
set_option linter.unusedSimpArgs false
set_option linter.unusedVariables false
section
variable {H : Type} {enc : TypeId × Value → H} {P : Program} {w : World} {base : Nat} {spare : Nat → Bool} {held : Bool}
theorem list_all {α : Type} (R : Nat → α → Prop) : ∀ n, (∀ i, i < n → ∃ x, R i x) → ∃ l : List α, l.length = n ∧ ∀ i x, l[i]? = some x → R i x
  | 0, _ => ⟨[], rfl, fun i x h => by simp at h⟩
  | n + 1, h => by
    obtain ⟨l, hl, hx⟩ := list_all R n (fun i hi => h i (by omega))
    obtain ⟨y, hy⟩ := h n (by omega)
    refine ⟨l ++ [y], by simp [hl], fun i x hi => ?_⟩
    rcases Nat.lt_trichotomy i n with h1 | h1 | h1
    · rw [List.getElem?_append_left (by omega)] at hi
      exact hx i x hi
    · subst h1
      rw [List.getElem?_append_right (by omega)] at hi
      simp [hl] at hi
      subst hi
      exact hy
    · rw [List.getElem?_eq_none (by simp; omega)] at hi
      cases hi
theorem open_rows {r : Reach} {b0 : Nat} {t t2 e : TypeId} {v : Value} {d : DataW H} {ps : List MemPlace} (ht : P.underlying t = some (.slice t2)) (ht2 : P.underlying t2 = some (.array 32 e)) (he : P.underlying e = some (.int .u8)) (hce : P.cellsOf e = 1) (hct2 : P.cellsOf t2 = 32)
    (hval : Value.okWide P w r b0 t v) (hd : DataW.Trod enc P w base spare held t v d ps) : ∃ (A : Option Addr) (rs : List (List UInt8)) (c : Nat), v = .slice A rs.length c ∧ rs.length ≤ c ∧ (rs ≠ [] → ∃ g o, A = some ⟨g, o, none⟩ ∧ ReadsR w g o rs) := by
  obtain ⟨A, len, cap, rfl⟩ := okWide_slice ht hval
  obtain ⟨fuel, hf⟩ := hd
  rcases DataW.trod_slice ht hf with ⟨hcs, _⟩ | ⟨a, len', cap', elems, rest, n, _, hcs, _, _, hl, _, hlen, hel, _, _⟩
  · simp [Value.cells] at hcs
    obtain ⟨rfl, rfl, rfl⟩ := hcs
    exact ⟨none, [], 0, rfl, Nat.le_refl _, fun h => absurd rfl h⟩
  · simp [Value.cells] at hcs
    obtain ⟨rfl, rfl, rfl⟩ := hcs
    obtain ⟨rs, hrs, hall⟩ := list_all (fun i (row : List UInt8) => row.length = 32 ∧ ∀ j v, (Lib.byteCells row)[j]? = some v → w.cell? ((a.add (i * 32)).add j) = some v) len (fun i hi => by
      have h1 := hel i hi
      rw [hct2, List.getElem?_eq_getElem (by omega), Option.bind_eq_some_iff] at h1
      obtain ⟨cs, hc1, hc2⟩ := h1
      obtain ⟨row, hr1, rfl⟩ := bytes_of_trod ht2 he hce hct2 hc2
      obtain ⟨_, h3, h4⟩ := World.cells?_some hc1
      refine ⟨row, hr1, fun j v hj => ?_⟩
      have hjl := (List.getElem?_eq_some_iff.1 hj).1
      rw [Lib.byteCells_length] at hjl
      rw [h4 j (by omega)]
      exact hj)
    subst hrs
    refine ⟨some a, rs, cap, rfl, hl, fun hne => ?_⟩
    obtain ⟨g, o, sp⟩ := a
    obtain ⟨x, hx⟩ : ∃ x, rs[0]? = some x := by
      rcases rs with _ | ⟨x, rs⟩
      · exact absurd rfl hne
      · exact ⟨x, rfl⟩
    have hsp : sp = none := by
      have h1 := (hall 0 x hx).2 0 _ (List.getElem?_eq_getElem (by rw [Lib.byteCells_length, (hall 0 x hx).1]; omega))
      have h2 : w.cell? ⟨g, o, sp⟩ = some _ := h1
      rcases sp with _ | s
      · rfl
      · unfold World.cell? at h2
        split at h2
        · simp at h2
        · cases h2
    subst hsp
    refine ⟨g, o, rfl, fun i row hr => ⟨(hall i row hr).1, fun j v hj => ?_⟩⟩
    have h1 := (hall i row hr).2 j v hj
    rwa [Addr.add_mid, Addr.add_mid] at h1
theorem open_i64s {r : Reach} {b0 : Nat} {t e : TypeId} {v : Value} {d : DataW H} {ps : List MemPlace} (ht : P.underlying t = some (.slice e)) (he : P.underlying e = some (.int .i64)) (hce : P.cellsOf e = 1)
    (hval : Value.okWide P w r b0 t v) (hd : DataW.Trod enc P w base spare held t v d ps) : ∃ (A : Option Addr) (zs : List Int) (c : Nat), v = .slice A zs.length c ∧ zs.length ≤ c ∧ ∀ j z, zs[j]? = some z → (Lit.int .i64 z).wf = true ∧ ∃ a, A = some a ∧ w.cell? (a.add j) = some (.int .i64 z) := by
  obtain ⟨A, len, cap, rfl⟩ := okWide_slice ht hval
  obtain ⟨fuel, hf⟩ := hd
  rcases open_ints ht he hce hf with ⟨hcs, _⟩ | ⟨x, l, c, zs, hcs, _, hl, hm, hz, _, hcell, hwz⟩
  · simp [Value.cells] at hcs
    obtain ⟨rfl, rfl, rfl⟩ := hcs
    exact ⟨none, [], 0, rfl, Nat.le_refl _, fun j z h => by simp at h⟩
  · simp [Value.cells] at hcs
    obtain ⟨rfl, rfl, rfl⟩ := hcs
    have hz2 : zs.length = cap ∨ zs.length = len := by
      split at hz <;> simp_all
    have hlen : len ≤ zs.length := by omega
    have htl : (zs.take len).length = len := by rw [List.length_take]; omega
    refine ⟨some x, zs.take len, cap, by rw [htl], by rw [htl]; exact hl, fun j z hj => ?_⟩
    have hjl := (List.getElem?_eq_some_iff.1 hj).1
    rw [htl] at hjl
    rw [List.getElem?_take, if_pos hjl] at hj
    have hc := hcell j (by omega)
    rw [List.getD_eq_getElem?_getD, hj] at hc
    exact ⟨hwz z (List.mem_of_getElem? hj), x, rfl, hc⟩
end
end Go.Proofs.YtmaknbcfnigbmaaDoor
