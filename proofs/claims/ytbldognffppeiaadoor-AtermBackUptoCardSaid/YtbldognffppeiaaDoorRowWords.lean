/- Words for the rows: arguments opened to bytes: an array of bytes, a slice of bytes. -/
import Derived.Test.YtbldognffppeiaaDoorArr
import Derived.OpenShut
import Derived.ProofKit
import Derived.SizedLaws
namespace Go.Proofs.YtbldognffppeiaaDoor
open Go.ChangeShapes Go.WideShapes Go.ChangeAt Go.RowKit

set_option linter.unusedSimpArgs false
set_option linter.unusedVariables false
section
variable {H : Type} {enc : TypeId × Value → H} {P : Program} {w : World} {base : Nat} {spare : Nat → Bool} {held : Bool}
theorem byte_of_wf {n : Int} (h : (Lit.int .u8 n).wf = true) : ∃ b : UInt8, n = (b.toNat : Int) := by
  simp [Lit.wf, IntKind.min, IntKind.max, IntKind.signed, IntKind.bits] at h
  refine ⟨UInt8.ofNat n.toNat, ?_⟩
  rw [UInt8.toNat_ofNat']
  omega
/-- An argument that is an array of bytes, by value. -/
theorem open_arrB {r : Reach} {b0 : Nat} {t e : TypeId} {n : Nat} {v : Value} {d : DataW H} {ps : List MemPlace} (ht : P.underlying t = some (.array n e)) (he : P.underlying e = some (.int .u8)) (hce : P.cellsOf e = 1) (hct : P.cellsOf t = n)
    (hval : Value.okWide P w r b0 t v) (hd : DataW.Trod enc P w base spare held t v d ps) : ∃ l : List UInt8, l.length = n ∧ v = .agg (cellsB l) := by
  unfold Value.okWide at hval
  rw [ht] at hval
  obtain ⟨cs, rfl, hsz, _⟩ := hval
  obtain ⟨fuel, hf⟩ := hd
  obtain ⟨xs, m, _, _, hcl, hxl, hg⟩ := DataW.trod_array ht hf
  rw [hct] at hsz
  have hone : ∀ i, i < n → ∃ b : UInt8, cs[i]? = some (.int .u8 (b.toNat : Int)) := by
    intro i hi
    have h1 := hg i hi
    rw [hce, Nat.mul_one] at h1
    have hv : (Value.agg cs).cells.toList = cs.toList := rfl
    have hi2 : i < cs.toList.length := by simp; omega
    have h2 : (cs.toList.drop i).take 1 = [cs.toList[i]] := by
      rw [List.drop_eq_getElem_cons hi2]; rfl
    rw [hv, h2, List.getElem?_eq_getElem (by omega)] at h1
    obtain ⟨k, hk, _, hwf⟩ := DataW.trod_int he h1
    obtain ⟨b, rfl⟩ := byte_of_wf hwf
    refine ⟨b, ?_⟩
    have h3 : cs.toList[i] = Value.int .u8 (b.toNat : Int) := by simpa using hk
    rw [← h3]
    simp [show i < cs.size by omega]
  have hall : ∀ k, k ≤ n → ∃ l : List UInt8, l.length = k ∧ ∀ i, i < k → cs[i]? = (cellsB l)[i]? := by
    intro k
    induction k with
    | zero => intro _; exact ⟨[], rfl, fun i hi => by omega⟩
    | succ k ih =>
      intro hk
      obtain ⟨l, hl, hc⟩ := ih (by omega)
      obtain ⟨b, hb⟩ := hone k (by omega)
      refine ⟨l ++ [b], by simp [hl], fun i hi => ?_⟩
      by_cases hik : i < k
      · rw [hc i hik]
        simp [cellsB, List.getElem?_append, hl, hik]
      · obtain rfl : i = k := by omega
        rw [hb]
        simp [cellsB, List.getElem?_append, hl]
  obtain ⟨l, hl, hc⟩ := hall n (Nat.le_refl _)
  refine ⟨l, hl, ?_⟩
  congr 1
  apply Array.ext_getElem?
  intro i
  by_cases hi : i < n
  · exact hc i hi
  · rw [Array.getElem?_eq_none (by omega), Array.getElem?_eq_none (by rw [cellsB_size]; omega)]
/-- An argument that is a slice of bytes; nil let in. -/
theorem open_bytes {r : Reach} {b0 : Nat} {t e : TypeId} {v : Value} {d : DataW H} {ps : List MemPlace} (ht : P.underlying t = some (.slice e)) (he : P.underlying e = some (.int .u8)) (hce : P.cellsOf e = 1)
    (hval : Value.okWide P w r b0 t v) (hd : DataW.Trod enc P w base spare held t v d ps) : ∃ (A : Option Addr) (l : List UInt8) (c : Nat), v = .slice A l.length c ∧ l.length ≤ c ∧ c ≤ maxLen ∧ ReadsB w A l := by
  obtain ⟨A, len, cap, rfl⟩ := okWide_slice ht hval
  obtain ⟨fuel, hf⟩ := hd
  rcases open_ints ht he hce hf with ⟨hcs, _⟩ | ⟨x, l, c, zs, hcs, _, hl, hm, hz, _, hcell, hwz⟩
  · simp [Value.cells] at hcs
    obtain ⟨rfl, rfl, rfl⟩ := hcs
    exact ⟨none, [], 0, rfl, Nat.le_refl _, Nat.zero_le _, ReadsB.nil _ _⟩
  · simp [Value.cells] at hcs
    obtain ⟨rfl, rfl, rfl⟩ := hcs
    have hz2 : zs.length = cap ∨ zs.length = len := by
      split at hz <;> simp_all
    have hlen : len ≤ zs.length := by omega
    have hall : ∀ k, k ≤ len → ∃ bs : List UInt8, bs.length = k ∧ ∀ i (h : i < bs.length), zs.getD i 0 = (bs[i].toNat : Int) := by
      intro k
      induction k with
      | zero => intro _; exact ⟨[], rfl, fun i hi => by simp at hi⟩
      | succ k ih =>
        intro hk
        obtain ⟨bs, hb, hc⟩ := ih (by omega)
        subst hb
        have hk2 : bs.length < zs.length := by omega
        obtain ⟨b, hbb⟩ := byte_of_wf (hwz zs[bs.length] (List.getElem_mem hk2))
        refine ⟨bs ++ [b], by simp, fun i hi => ?_⟩
        by_cases hik : i < bs.length
        · rw [hc i hik, List.getElem_append_left hik]
        · obtain rfl : i = bs.length := by simp at hi; omega
          simp [List.getD, hk2, hbb]
    obtain ⟨bs, hb, hc⟩ := hall len (Nat.le_refl _)
    subst hb
    refine ⟨some x, bs, cap, rfl, hl, hm, fun _ => ⟨x, rfl, fun j b hj => ?_⟩⟩
    have hj2 : j < bs.length := by
      rcases Nat.lt_or_ge j bs.length with h1 | h1
      · exact h1
      · rw [List.getElem?_eq_none h1] at hj; cases hj
    rw [List.getElem?_eq_getElem hj2] at hj
    injection hj with hj
    have hz3 : j < zs.length := by omega
    have h4 := hc j hj2
    rw [List.getD_eq_getElem?_getD, List.getElem?_eq_getElem hz3, Option.getD_some] at h4
    have h5 : w.cell? (x.add j) = some (.int .u8 zs[j]) := by
      first | exact hcell j (by omega) | (have := hcell j hz3; simpa [List.getD, hz3] using this)
    rw [h5, h4, hj]
end
end Go.Proofs.YtbldognffppeiaaDoor
