/- Words for a row: an array of two strings, an array of two arrays of bytes, by value. -/
import Derived.Test.YtmaknbcfnigbmaaDoorRowOpen
namespace Go.Proofs.YtmaknbcfnigbmaaDoor
open Go.ChangeShapes Go.WideShapes Go.ChangeAt Go.RowKit
set_option linter.unusedSimpArgs false
set_option linter.unusedVariables false
section
variable {H : Type} {enc : TypeId × Value → H} {P : Program} {w : World} {base : Nat} {spare : Nat → Bool} {held : Bool}
theorem bytes_all : ∀ cs : List Value, (∀ v ∈ cs, ∃ b : UInt8, v = .int .u8 (b.toNat : Int)) → ∃ l : List UInt8, l.length = cs.length ∧ cs = Lib.byteCells l
  | [], _ => ⟨[], rfl, rfl⟩
  | v :: cs, h => by
    obtain ⟨b, rfl⟩ := h v (by simp)
    obtain ⟨l, hl, rfl⟩ := bytes_all cs (fun v hv => h v (List.mem_cons_of_mem _ hv))
    exact ⟨b :: l, by simp [Lib.byteCells], by simp [Lib.byteCells]⟩
theorem bytes_of_trod {t e : TypeId} {n fuel : Nat} {cs : List Value} {x : DataW H × List MemPlace} (ht : P.underlying t = some (.array n e)) (he : P.underlying e = some (.int .u8)) (hce : P.cellsOf e = 1) (hct : P.cellsOf t = n)
    (h : DataW.trod enc P w base spare held fuel t cs = some x) : ∃ l : List UInt8, l.length = n ∧ cs = Lib.byteCells l := by
  obtain ⟨xs, m, _, _, hcl, hxl, hg⟩ := DataW.trod_array ht h
  rw [hct] at hcl
  obtain ⟨l, hl, hc⟩ := bytes_all cs (fun v hv => by
    obtain ⟨i, hi, hvi⟩ := List.mem_iff_getElem.1 hv
    have h1 := hg i (by omega)
    rw [hce, Nat.mul_one] at h1
    have h2 : (cs.drop i).take 1 = [cs[i]] := by
      rw [List.drop_eq_getElem_cons hi]; rfl
    rw [h2, List.getElem?_eq_getElem (by omega)] at h1
    obtain ⟨k, hk, _, hwf⟩ := DataW.trod_int he h1
    obtain ⟨b, rfl⟩ := byte_of_wf hwf
    refine ⟨b, ?_⟩
    rw [← hvi]
    simpa using hk)
  exact ⟨l, by omega, hc⟩
theorem open_arrB2 {r : Reach} {b0 : Nat} {t t2 e : TypeId} {n : Nat} {v : Value} {d : DataW H} {ps : List MemPlace} (ht : P.underlying t = some (.array 2 t2)) (ht2 : P.underlying t2 = some (.array n e)) (he : P.underlying e = some (.int .u8)) (hce : P.cellsOf e = 1) (hct2 : P.cellsOf t2 = n) (hct : P.cellsOf t = n + n)
    (hval : Value.okWide P w r b0 t v) (hd : DataW.Trod enc P w base spare held t v d ps) : ∃ l m : List UInt8, l.length = n ∧ m.length = n ∧ v = .agg (cellsB (l ++ m)) := by
  unfold Value.okWide at hval
  rw [ht] at hval
  obtain ⟨cs, rfl, hsz, _⟩ := hval
  obtain ⟨fuel, hf⟩ := hd
  obtain ⟨xs, k, _, _, hcl, hxl, hg⟩ := DataW.trod_array ht hf
  rw [hct] at hsz
  have hv : (Value.agg cs).cells.toList = cs.toList := rfl
  have h0 := hg 0 (by omega)
  have h1 := hg 1 (by omega)
  rw [hv, hct2, List.getElem?_eq_getElem (by omega)] at h0 h1
  obtain ⟨l, hl, el⟩ := bytes_of_trod ht2 he hce hct2 h0
  obtain ⟨m, hm, em⟩ := bytes_of_trod ht2 he hce hct2 h1
  refine ⟨l, m, hl, hm, ?_⟩
  congr 1
  apply Array.ext'
  have e1 : cs.toList = cs.toList.take n ++ cs.toList.drop n := (List.take_append_drop n _).symm
  have e2 : (cs.toList.drop n).take n = cs.toList.drop n := List.take_of_length_le (by simp; omega)
  rw [Nat.zero_mul, List.drop_zero] at el
  rw [Nat.one_mul, e2] at em
  rw [e1, el, em]
  simp [cellsB, Lib.byteCells]
theorem open_strs2 {r : Reach} {b0 : Nat} {t e : TypeId} {v : Value} {d : DataW H} {ps : List MemPlace} (ht : P.underlying t = some (.array 2 e)) (he : P.underlying e = some .string) (hce : P.cellsOf e = 1) (hct : P.cellsOf t = 2)
    (hval : Value.okWide P w r b0 t v) (hd : DataW.Trod enc P w base spare held t v d ps) : ∃ a b : ByteArray, v = .agg #[.string a, .string b] ∧ d = .agg [.lit (.string a.data.toList), .lit (.string b.data.toList)] := by
  unfold Value.okWide at hval
  rw [ht] at hval
  obtain ⟨cs, rfl, hsz, _⟩ := hval
  obtain ⟨fuel, hf⟩ := hd
  obtain ⟨xs, k, _, hx, hcl, hxl, hg⟩ := DataW.trod_array ht hf
  rw [hct] at hsz
  have hv : (Value.agg cs).cells.toList = cs.toList := rfl
  have h0 := hg 0 (by omega)
  have h1 := hg 1 (by omega)
  rw [hv, hce, List.getElem?_eq_getElem (by omega)] at h0 h1
  have hl : cs.toList.length = 2 := by simpa using hsz
  obtain ⟨s0, e0, x0, _⟩ := DataW.trod_string he h0
  obtain ⟨s1, e1, x1, _⟩ := DataW.trod_string he h1
  refine ⟨s0, s1, ?_, ?_⟩
  · congr 1
    apply Array.ext'
    generalize cs.toList = c at *
    rcases c with _ | ⟨c0, _ | ⟨c1, _ | _⟩⟩ <;> simp at hl
    simp at e0 e1
    simp [e0, e1]
  · rcases xs with _ | ⟨y0, _ | ⟨y1, _ | _⟩⟩ <;> simp at hxl
    simp at x0 x1
    simp only [Prod.mk.injEq] at hx
    rw [hx.1]
    simp [x0, x1]
end
end Go.Proofs.YtmaknbcfnigbmaaDoor
