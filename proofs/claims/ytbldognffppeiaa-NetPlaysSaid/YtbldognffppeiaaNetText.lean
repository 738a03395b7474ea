/- Words for the laws on networks: texts of bytes; what Get answers where there is one file. -/
import Derived.Test.YtbldognffppeiaaNetMake
import Derived.Laws.BytesArg
import Derived.Laws.IdiomStrings
namespace Go.Proofs.Ytbldognffppeiaa
open Go.RowKit Go.Maps
set_option linter.unusedSimpArgs false
set_option linter.unusedVariables false
/-- The text of bytes that are read. -/
theorem text_of_B {P : Program} {w : World} {src dst e : TypeId} {A : Option Addr} {c : Nat} {l : List UInt8} (hs : P.underlying src = some (.slice e)) (he : P.underlying e = some (.int .u8)) (hd : P.underlying dst = some .string)
    (h : ReadsB w A l) : (convert src dst (.slice A l.length c)).run P w = .ok (.string ⟨l.toArray⟩) w := by
  cases A with
  | none =>
    have h0 : l = [] := by
      cases l with
      | nil => rfl
      | cons b r => obtain ⟨ad, e, _⟩ := h (by simp); cases e
    subst h0
    exact run_convert_bytes_nil w src e hs he 0 c dst hd
  | some a =>
    refine run_convert_bytes_back w src dst e a c l hs he hd (fun j hj => ?_)
    obtain ⟨ad, e, hc⟩ := h (by omega)
    injection e with e
    subst e
    exact hc j _ (List.getElem?_eq_getElem hj)
/-- The name of the file. -/
def nmF : ByteArray := ⟨#[102]⟩
theorem lookF_one (b : List UInt8) : lookF [(nmF, b)] nmF = some b := by simp [lookF]
theorem dup_one (f : ByteArray × List UInt8) : ¬ Dup [f] := by
  rintro ⟨k, g, hg, hne⟩
  have hk : k = 0 := by
    have := (List.getElem?_eq_some_iff.1 hg).1
    simp at this
    omega
  subst hk
  exact hne rfl
theorem anyBig_one (nm : ByteArray) (b : List UInt8) (h : b.length ≤ 1048576) : anyBig [(nm, b)] = false := by
  simp [anyBig]; omega
/-- What comes of a file that is asked for whole. -/
def wholeV (code : Int) (b : List UInt8) : List UInt8 := if code = 2 then b.take (b.length / 2) else if code = 3 ∧ 0 < b.length then b.set (b.length - 1) (b.getD (b.length - 1) 0 ^^^ 1) else b
theorem getV_one (code : Int) (b : List UInt8) (hb : b.length ≤ 200) (h1 : code ≠ 1) (h4 : code ≠ 4) : getV [(nmF, b)] code nmF 0 1000 = (wholeV code b, 0) := by
  unfold getV
  rw [if_neg h1, if_neg h4, lookF_one]
  show (getOut code b 0 1000, (0 : Int)) = _
  congr 1
  unfold getOut getK wholeV
  have e : min 1000 (b.length - 0) = b.length := by omega
  rw [e, List.drop_zero]
  by_cases h2 : code = 2
  · subst h2
    simp
  · rw [if_neg h2, if_neg h2]
    simp only [List.take_length]
theorem wholeV_length (code : Int) (b : List UInt8) : (wholeV code b).length = if code = 2 then b.length / 2 else b.length := by
  unfold wholeV
  split
  · rw [List.length_take]; omega
  · split
    · rw [List.length_set]
    · rfl
theorem whole_unlike (b : List UInt8) (h : 0 < b.length) : wholeV 3 b ≠ b := by
  unfold wholeV
  rw [if_neg (by decide), if_pos ⟨rfl, h⟩]
  intro e
  have h1 : (b.set (b.length - 1) (b.getD (b.length - 1) 0 ^^^ 1))[b.length - 1]? = b[b.length - 1]? := by rw [e]
  rw [List.getElem?_set_self (by omega), List.getElem?_eq_getElem (by omega)] at h1
  simp only [Option.some.injEq, List.getD_eq_getElem?_getD, List.getElem?_eq_getElem (show b.length - 1 < b.length by omega), Option.getD_some] at h1
  generalize b[b.length - 1] = x at h1
  have h2 := congrArg (· ^^^ x) h1
  simp only [UInt8.xor_self] at h2
  rw [UInt8.xor_comm x 1, UInt8.xor_assoc, UInt8.xor_self, UInt8.xor_zero] at h2
  exact absurd h2 (by decide)
theorem files_one {w : World} {g : Nat} {A : Option Addr} {b : List UInt8} {c : Nat} (h1 : w.cell? ⟨g, 0, none⟩ = some (.string nmF)) (h2 : w.cell? ⟨g, 1, none⟩ = some (.slice A b.length c)) (hc : b.length ≤ c) (hm : c ≤ maxLen) (hr : ReadsB w A b) : FilesIn w (some ⟨g, 0, none⟩) [(nmF, b)] := fun j f hj => by
  have hk : j = 0 := by
    have := (List.getElem?_eq_some_iff.1 hj).1
    simp at this
    omega
  subst hk
  simp at hj
  subst hj
  exact ⟨g, A, c, rfl, h1, h2, hc, hm, by show nmF.size ≤ maxLen; unfold nmF maxLen; decide, hr⟩
end Go.Proofs.Ytbldognffppeiaa
