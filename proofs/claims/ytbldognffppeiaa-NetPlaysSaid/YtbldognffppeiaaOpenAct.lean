/- NetNobody's argument, opened: a number, a text, two numbers. -/
import Derived.Test.YtbldognffppeiaaWalkNobody
import Derived.Test.YtbldognffppeiaaRowWords
import Derived.Lib.SmallJoins
namespace Go.Proofs.Ytbldognffppeiaa
open Go.ChangeShapes Go.WideShapes Go.ChangeAt Go.RowKit
set_option linter.unusedSimpArgs false
theorem arr4 {α : Type} {cs : Array α} (h : cs.size = 4) : ∃ c0 c1 c2 c3, cs = #[c0, c1, c2, c3] := by
  obtain ⟨l⟩ := cs
  match l, h with
  | [c0, c1, c2, c3], _ => exact ⟨c0, c1, c2, c3, rfl⟩
section
variable {H : Type} {enc : TypeId × Value → H} {w : World} {base : Nat} {spare : Nat → Bool} {held : Bool}
theorem open_act {r : Reach} {b0 : Nat} {v : Value} {d : DataW H} {ps : List MemPlace}
    (hval : Value.okWide Try.prog w r b0 23 v) (hd : DataW.Trod enc Try.prog w base spare held 23 v d ps) : ∃ (k a b : Int) (s : ByteArray), v = .agg #[.int .i64 k, .string s, .int .i64 a, .int .i64 b] := by
  obtain ⟨cs, rfl, hsz⟩ := okWide_struct Try.underlying23 hval
  obtain ⟨c0, c1, c2, c3, rfl⟩ := arr4 (hsz.trans (show Try.prog.cellsOf 23 = 4 by kernel_rfl))
  obtain ⟨fuel, hf⟩ := hd
  obtain ⟨y0, y1, y2, y3, n, _, _, h0, h1, h2, h3⟩ := Joins.trod_struct4 Try.underlying23 hf
  rw [show Try.prog.cellsOf 3 = 1 by kernel_rfl] at h0 h2 h3
  rw [show Try.prog.cellsOf 9 = 1 by kernel_rfl] at h1
  obtain ⟨k, e0, _, _⟩ := DataW.trod_int Try.underlying3 h0
  obtain ⟨s, e1, _, _⟩ := DataW.trod_string Try.underlying9 h1
  obtain ⟨a, e2, _, _⟩ := DataW.trod_int Try.underlying3 h2
  obtain ⟨b, e3, _, _⟩ := DataW.trod_int Try.underlying3 h3
  simp [Value.cells] at e0 e1 e2 e3
  subst e0 e1 e2 e3
  exact ⟨k, a, b, s, rfl⟩
end
end Go.Proofs.Ytbldognffppeiaa
