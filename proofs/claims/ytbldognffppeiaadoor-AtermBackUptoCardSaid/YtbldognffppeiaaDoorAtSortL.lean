/- AtermSorts: the plain side: texts of two signs rise; what is changed about does not. -/
import Derived.Test.YtbldognffppeiaaDoorAtOwn
import Derived.Laws.IdiomStrings
namespace Go.Proofs.YtbldognffppeiaaDoor
open Go.RowKit
set_option linter.unusedSimpArgs false
set_option linter.unusedVariables false
def srcB (i : Nat) : UInt8 := UInt8.ofNat (97 + i)
def srcS (i : Nat) : ByteArray := (⟨#[115]⟩ : ByteArray) ++ (⟨[srcB i].toArray⟩ : ByteArray)
def srcL (m : Nat) : List ByteArray := (List.range m).map srcS
theorem srcS_list (i : Nat) : (srcS i).toList = [115, srcB i] := by
  rw [ByteArray.toList_eq]
  simp [srcS]
theorem srcB_lt {i j : Nat} (hi : i < 26) (hj : j < 26) : (srcB i < srcB j) ↔ i < j := by
  unfold srcB
  rw [UInt8.lt_iff_toNat_lt, UInt8.toNat_ofNat', UInt8.toNat_ofNat']
  omega
theorem srcB_eq {i j : Nat} (hi : i < 26) (hj : j < 26) : (srcB i = srcB j) ↔ i = j := by
  unfold srcB
  rw [← UInt8.toNat_inj, UInt8.toNat_ofNat', UInt8.toNat_ofNat']
  omega
theorem leq_srcS {i j : Nat} (hi : i < 26) (hj : j < 26) : leqS (srcS i) (srcS j) = decide (i ≤ j) := by
  unfold leqS
  rw [srcS_list, srcS_list]
  have h1 := srcB_lt hi hj
  have h2 := srcB_eq hi hj
  by_cases hlt : i < j
  · have h3 : srcB i < srcB j := h1.2 hlt
    simp [Op.bytesLess, h3]
    omega
  · by_cases he : i = j
    · subst he
      simp [Op.bytesLess]
    · have h3 : ¬ srcB i < srcB j := fun h => hlt (h1.1 h)
      have h4 : srcB i ≠ srcB j := fun h => he (h2.1 h)
      have h5 : ¬ i ≤ j := by omega
      simp [Op.bytesLess, h3, h4, h5]
theorem srcL_length (m : Nat) : (srcL m).length = m := by simp [srcL]
theorem srcL_at {m i : Nat} (h : i < m) : (srcL m)[i]? = some (srcS i) := by simp [srcL, h]
theorem srcL_succ (m : Nat) : srcL (m + 1) = srcL m ++ [srcS m] := by simp [srcL, List.range_succ]
theorem rises_srcL (m : Nat) (hm : m < 26) : rises (srcL m) = true := by
  have h : ∀ k, k ≤ m → risesK (srcL m) k = true := by
    intro k
    induction k with
    | zero => intro _; rfl
    | succ k ih =>
      intro hk
      by_cases h0 : k = 0
      · subst h0; rfl
      · rw [risesK_step (srcL m) k (srcS k) (srcS (k - 1)) (by omega) (srcL_at (by omega)) (srcL_at (by omega)) (ih (by omega)), leq_srcS (by omega) (by omega)]
        simp
        omega
  unfold rises
  rw [srcL_length]
  exact h m (Nat.le_refl _)
theorem rises_not {l : List ByteArray} {k : Nat} {a b : ByteArray} (h0 : 0 < k) (ha : l[k]? = some a) (hb : l[k - 1]? = some b) (h : leqS a b = true) : rises l = false := by
  have hk := (List.getElem?_eq_some_iff.1 ha).1
  cases hr : risesK l k
  · exact risesK_false l k hr _ (by omega)
  · refine risesK_false l (k + 1) ?_ _ (by omega)
    rw [risesK_step l k a b h0 ha hb hr, h]; rfl
/-- The last two changed about. -/
def swapL (m : Nat) : List ByteArray := ((srcL m).set (m - 1) (srcS (m - 2))).set (m - 2) (srcS (m - 1))
/-- The last told twice. -/
def dupL (m : Nat) : List ByteArray := (swapL m).set (m - 1) (srcS (m - 1))
theorem swapL_length (m : Nat) : (swapL m).length = m := by simp [swapL, srcL_length]
theorem dupL_length (m : Nat) : (dupL m).length = m := by simp [dupL, swapL_length]
theorem swapL_last {m : Nat} (hm : 2 ≤ m) : (swapL m)[m - 1]? = some (srcS (m - 2)) := by
  unfold swapL
  rw [List.getElem?_set_ne (by omega), List.getElem?_set_self (by rw [srcL_length]; omega)]
theorem swapL_prev {m : Nat} (hm : 2 ≤ m) : (swapL m)[m - 2]? = some (srcS (m - 1)) := by
  unfold swapL
  rw [List.getElem?_set_self (by simp [srcL_length]; omega)]
theorem rises_swapL {m : Nat} (hm : 2 ≤ m) (h26 : m < 26) : rises (swapL m) = false :=
  rises_not (k := m - 1) (by omega) (swapL_last hm) (by rw [show m - 1 - 1 = m - 2 by omega]; exact swapL_prev hm) (by rw [leq_srcS (by omega) (by omega)]; simp; omega)
theorem rises_dupL {m : Nat} (hm : 2 ≤ m) (h26 : m < 26) : rises (dupL m) = false := by
  refine rises_not (k := m - 1) (a := srcS (m - 1)) (b := srcS (m - 1)) (by omega) ?_ ?_ (by rw [leq_srcS (by omega) (by omega)]; simp)
  · unfold dupL
    rw [List.getElem?_set_self (by rw [swapL_length]; omega)]
  · unfold dupL
    rw [show m - 1 - 1 = m - 2 by omega, List.getElem?_set_ne (by omega), swapL_prev hm]
def withS (d : Drv) (l : List ByteArray) : Drv := { d with srcs := l }
theorem rightE_ok {d : Drv} (h : rightE d = 0) : ¬ big0 d ∧ ¬ bigIns d.ins ∧ formD d = true := by
  unfold rightE at h
  split at h
  · cases h
  · rename_i h1
    split at h
    · rename_i h2
      exact ⟨fun hh => h1 (.inl hh), fun hh => h1 (.inr hh), h2⟩
    · cases h
theorem rightE_with {d : Drv} (h : rightE d = 0) (l : List ByteArray) (hl : l.length ≤ 1024) : rightE (withS d l) = if rises l = true then 0 else 10 := by
  obtain ⟨h1, h2, h3⟩ := rightE_ok h
  have hb : ¬ (big0 (withS d l) ∨ bigIns (withS d l).ins) := by
    rintro (hh | hh)
    · apply h1
      unfold big0 at hh ⊢
      rcases hh with hh | hh | hh | hh | hh
      · exact .inl hh
      · exact .inr (.inl hh)
      · exact absurd hh (by show ¬ 1024 < l.length; omega)
      · exact .inr (.inr (.inr (.inl hh)))
      · exact .inr (.inr (.inr (.inr hh)))
    · exact h2 hh
  have hf : formD (withS d l) = rises l := by
    unfold formD at h3 ⊢
    simp only [Bool.and_eq_true] at h3
    obtain ⟨⟨⟨⟨⟨q1, q2⟩, q3⟩, q4⟩, _⟩, q6⟩ := h3
    show (decide (0 < d.outs.length) && rises (d.outs.map (·.1)) && rises (d.ins.map (·.1)) && !(d.ins.any fun x => oddB x.2) && rises l && rises (d.env.map (·.1))) = rises l
    rw [q1, q2, q3, q4, q6]
    simp
  unfold rightE
  rw [if_neg hb, hf]
end Go.Proofs.YtbldognffppeiaaDoor
