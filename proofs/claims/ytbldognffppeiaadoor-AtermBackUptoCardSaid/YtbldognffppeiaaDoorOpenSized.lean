/- A derivation among the arguments, opened, with the sizes of its texts. Printed by wip/gen/mk_opensized.py. -/
import Derived.Test.YtbldognffppeiaaDoorOpenDrv
import Derived.Test.YtbldognffppeiaaDoorAtRefText
namespace Go.Proofs.YtbldognffppeiaaDoor
open Go.ChangeShapes Go.WideShapes Go.ChangeAt Go.RowKit
set_option linter.unusedSimpArgs false
set_option linter.unusedVariables false
set_option maxRecDepth 100000
section
variable {H : Type} {enc : TypeId × Value → H} {w : World} {base : Nat} {held : Bool}
theorem str_size {n : Nat} {v : Value} {y : DataW H × List MemPlace} {B : Nat} (h : DataW.trod enc Tryd.prog w base (fun _ => true) held n 9 [v] = some y) (hB : Rows.uptoBulk y.1 ≤ B) : ∃ s : ByteArray, v = .string s ∧ s.size ≤ B := by
  obtain ⟨s, e, rfl, _⟩ := DataW.trod_string Tryd.underlying9 h
  simp at e
  subst e
  refine ⟨s, rfl, ?_⟩
  simp only [Rows.uptoBulk] at hB
  have h2 : s.data.toList.length = s.size := by simp
  omega
def StrS (w : World) (B g o i : Nat) (x : ByteArray) : Prop := w.cell? ⟨g, o + i, none⟩ = some (.string x) ∧ x.size ≤ B
theorem mem_at {α : Type} {l : List α} {p : α → Prop} (h : ∀ (j : Nat) (x : α), l[j]? = some x → p x) : ∀ x ∈ l, p x := fun x hx => by
  obtain ⟨j, hj, e⟩ := List.getElem_of_mem hx
  exact h j x (by rw [List.getElem?_eq_getElem hj, e])
theorem open_strsS {n : Nat} {v : Value} {y : DataW H × List MemPlace} {B : Nat} (h : DataW.trod enc Tryd.prog w base (fun _ => true) held n 26 [v] = some y) (hB : Rows.uptoBulk y.1 ≤ B) :
    ∃ (A : Option Addr) (l : List ByteArray) (c : Nat), v = .slice A l.length c ∧ l.length ≤ c ∧ c ≤ maxLen ∧ (A = none → l.length = 0 ∧ c = 0) ∧ l.length ≤ B ∧ StrsAt w A l ∧ ∀ s ∈ l, s.size ≤ B := by
  obtain ⟨A, l, c, h1, h2, h3, h4, h5, h6⟩ := open_list Tryd.underlying26 (show Tryd.prog.cellsOf 9 = 1 by kernel_rfl) (by decide) (StrS w B) B (fun n i cs y hy hyB hl => by
    match cs, hl with
    | [c0], _ =>
      obtain ⟨s, rfl, hs⟩ := str_size hy hyB
      exact ⟨s, fun g o hc => ⟨by have := hc 0 _ rfl; simpa using this, hs⟩⟩) h hB
  exact ⟨A, l, c, h1, h2, h3, h4, h5, fun j x hj => by obtain ⟨g, o, e, q1, _⟩ := h6 j x hj; exact ⟨g, o, e, q1⟩, mem_at fun j x hj => by obtain ⟨g, o, e, _, q2⟩ := h6 j x hj; exact q2⟩
def OutS (w : World) (B g o i : Nat) (x : ByteArray × ByteArray × ByteArray) : Prop := (w.cell? ⟨g, o + i * 3, none⟩ = some (.string x.1) ∧ w.cell? ⟨g, o + i * 3 + 1, none⟩ = some (.string x.2.1) ∧ w.cell? ⟨g, o + i * 3 + 2, none⟩ = some (.string x.2.2)) ∧ x.1.size ≤ B ∧ x.2.1.size ≤ B ∧ x.2.2.size ≤ B
theorem open_outsS {n : Nat} {v : Value} {y : DataW H × List MemPlace} {B : Nat} (h : DataW.trod enc Tryd.prog w base (fun _ => true) held n 24 [v] = some y) (hB : Rows.uptoBulk y.1 ≤ B) :
    ∃ (A : Option Addr) (l : List (ByteArray × ByteArray × ByteArray)) (c : Nat), v = .slice A l.length c ∧ l.length ≤ c ∧ c ≤ maxLen ∧ (A = none → l.length = 0 ∧ c = 0) ∧ l.length ≤ B ∧ OutsAt w A l ∧ ∀ x ∈ l, x.1.size ≤ B ∧ x.2.1.size ≤ B ∧ x.2.2.size ≤ B := by
  obtain ⟨A, l, c, h1, h2, h3, h4, h5, h6⟩ := open_list Tryd.underlying24 (show Tryd.prog.cellsOf 49 = 3 by kernel_rfl) (by decide) (OutS w B) B (fun n i cs y hy hyB hl => by
    obtain ⟨ys, n', _, hyd, _, hyl, hg⟩ := DataW.trod_struct Tryd.underlying49 hy
    match cs, hl with
    | [c0, c1, c2], _ =>
      match ys, hyl with
      | [y0, y1, y2], _ =>
        subst hyd
        simp only [List.map_cons, List.map_nil, Rows.uptoBulk, Rows.uptoBulkAll] at hyB
        have g0 : DataW.trod enc Tryd.prog w base (fun _ => true) held n' 9 (([c0, c1, c2].drop 0).take (Tryd.prog.cellsOf 9)) = some y0 := hg 0 _ rfl
        rw [show Tryd.prog.cellsOf 9 = 1 by kernel_rfl] at g0
        replace g0 : DataW.trod enc Tryd.prog w base (fun _ => true) held n' 9 [c0] = some y0 := g0
        have g1 : DataW.trod enc Tryd.prog w base (fun _ => true) held n' 9 (([c0, c1, c2].drop 1).take (Tryd.prog.cellsOf 9)) = some y1 := hg 1 _ rfl
        rw [show Tryd.prog.cellsOf 9 = 1 by kernel_rfl] at g1
        replace g1 : DataW.trod enc Tryd.prog w base (fun _ => true) held n' 9 [c1] = some y1 := g1
        have g2 : DataW.trod enc Tryd.prog w base (fun _ => true) held n' 9 (([c0, c1, c2].drop 2).take (Tryd.prog.cellsOf 9)) = some y2 := hg 2 _ rfl
        rw [show Tryd.prog.cellsOf 9 = 1 by kernel_rfl] at g2
        replace g2 : DataW.trod enc Tryd.prog w base (fun _ => true) held n' 9 [c2] = some y2 := g2
        obtain ⟨s0, rfl, z0⟩ := str_size (B := B) g0 (by omega)
        obtain ⟨s1, rfl, z1⟩ := str_size (B := B) g1 (by omega)
        obtain ⟨s2, rfl, z2⟩ := str_size (B := B) g2 (by omega)
        exact ⟨(s0, s1, s2), fun g o hc => ⟨⟨hc 0 _ rfl, hc 1 _ rfl, hc 2 _ rfl⟩, z0, z1, z2⟩⟩) h hB
  exact ⟨A, l, c, h1, h2, h3, h4, h5, fun j x hj => by obtain ⟨g, o, e, q1, _⟩ := h6 j x hj; exact ⟨g, o, e, q1⟩, mem_at fun j x hj => by obtain ⟨g, o, e, _, q2⟩ := h6 j x hj; exact q2⟩
def PairS (w : World) (B g o i : Nat) (x : ByteArray × ByteArray) : Prop := (w.cell? ⟨g, o + i * 2, none⟩ = some (.string x.1) ∧ w.cell? ⟨g, o + i * 2 + 1, none⟩ = some (.string x.2)) ∧ x.1.size ≤ B ∧ x.2.size ≤ B
theorem open_pairsS {n : Nat} {v : Value} {y : DataW H × List MemPlace} {B : Nat} (h : DataW.trod enc Tryd.prog w base (fun _ => true) held n 27 [v] = some y) (hB : Rows.uptoBulk y.1 ≤ B) :
    ∃ (A : Option Addr) (l : List (ByteArray × ByteArray)) (c : Nat), v = .slice A l.length c ∧ l.length ≤ c ∧ c ≤ maxLen ∧ (A = none → l.length = 0 ∧ c = 0) ∧ l.length ≤ B ∧ PairsAt w A l ∧ ∀ x ∈ l, x.1.size ≤ B ∧ x.2.size ≤ B := by
  obtain ⟨A, l, c, h1, h2, h3, h4, h5, h6⟩ := open_list Tryd.underlying27 (show Tryd.prog.cellsOf 70 = 2 by kernel_rfl) (by decide) (PairS w B) B (fun n i cs y hy hyB hl => by
    obtain ⟨ys, n', _, hyd, _, hyl, hg⟩ := DataW.trod_struct Tryd.underlying70 hy
    match cs, hl with
    | [c0, c1], _ =>
      match ys, hyl with
      | [y0, y1], _ =>
        subst hyd
        simp only [List.map_cons, List.map_nil, Rows.uptoBulk, Rows.uptoBulkAll] at hyB
        have g0 : DataW.trod enc Tryd.prog w base (fun _ => true) held n' 9 (([c0, c1].drop 0).take (Tryd.prog.cellsOf 9)) = some y0 := hg 0 _ rfl
        rw [show Tryd.prog.cellsOf 9 = 1 by kernel_rfl] at g0
        replace g0 : DataW.trod enc Tryd.prog w base (fun _ => true) held n' 9 [c0] = some y0 := g0
        have g1 : DataW.trod enc Tryd.prog w base (fun _ => true) held n' 9 (([c0, c1].drop 1).take (Tryd.prog.cellsOf 9)) = some y1 := hg 1 _ rfl
        rw [show Tryd.prog.cellsOf 9 = 1 by kernel_rfl] at g1
        replace g1 : DataW.trod enc Tryd.prog w base (fun _ => true) held n' 9 [c1] = some y1 := g1
        obtain ⟨s0, rfl, z0⟩ := str_size (B := B) g0 (by omega)
        obtain ⟨s1, rfl, z1⟩ := str_size (B := B) g1 (by omega)
        exact ⟨(s0, s1), fun g o hc => ⟨⟨hc 0 _ rfl, hc 1 _ rfl⟩, z0, z1⟩⟩) h hB
  exact ⟨A, l, c, h1, h2, h3, h4, h5, fun j x hj => by obtain ⟨g, o, e, q1, _⟩ := h6 j x hj; exact ⟨g, o, e, q1⟩, mem_at fun j x hj => by obtain ⟨g, o, e, _, q2⟩ := h6 j x hj; exact q2⟩
def InS (w : World) (B g o i : Nat) (x : ByteArray × List ByteArray) : Prop := InAt w B g o i x ∧ x.1.size ≤ B ∧ ∀ s ∈ x.2, s.size ≤ B
theorem open_insS {n : Nat} {v : Value} {y : DataW H × List MemPlace} {B : Nat} (h : DataW.trod enc Tryd.prog w base (fun _ => true) held n 25 [v] = some y) (hB : Rows.uptoBulk y.1 ≤ B) :
    ∃ (A : Option Addr) (l : List (ByteArray × List ByteArray)) (c : Nat), v = .slice A l.length c ∧ l.length ≤ c ∧ c ≤ maxLen ∧ (A = none → l.length = 0 ∧ c = 0) ∧ l.length ≤ B ∧ InsAt w A l ∧ (∀ (j : Nat) (x : ByteArray × List ByteArray), l[j]? = some x → x.2.length ≤ B) ∧ ∀ x ∈ l, x.1.size ≤ B ∧ ∀ s ∈ x.2, s.size ≤ B := by
  obtain ⟨A, l, c, h1, h2, h3, h4, h5, h6⟩ := open_list Tryd.underlying25 (show Tryd.prog.cellsOf 61 = 2 by kernel_rfl) (by decide) (InS w B) B (fun n i cs y hy hyB hl => by
    obtain ⟨ys, n', _, hyd, _, hyl, hg⟩ := DataW.trod_struct Tryd.underlying61 hy
    match cs, hl with
    | [c0, c1], _ =>
      match ys, hyl with
      | [y0, y1], _ =>
        subst hyd
        simp only [List.map_cons, List.map_nil, Rows.uptoBulk, Rows.uptoBulkAll] at hyB
        have g0 : DataW.trod enc Tryd.prog w base (fun _ => true) held n' 9 (([c0, c1].drop 0).take (Tryd.prog.cellsOf 9)) = some y0 := hg 0 _ rfl
        rw [show Tryd.prog.cellsOf 9 = 1 by kernel_rfl] at g0
        replace g0 : DataW.trod enc Tryd.prog w base (fun _ => true) held n' 9 [c0] = some y0 := g0
        have g1 : DataW.trod enc Tryd.prog w base (fun _ => true) held n' 26 (([c0, c1].drop 1).take (Tryd.prog.cellsOf 26)) = some y1 := hg 1 _ rfl
        rw [show Tryd.prog.cellsOf 26 = 1 by kernel_rfl] at g1
        replace g1 : DataW.trod enc Tryd.prog w base (fun _ => true) held n' 26 [c1] = some y1 := g1
        obtain ⟨s0, rfl, z0⟩ := str_size (B := B) g0 (by omega)
        obtain ⟨An, l, cn, rfl, q1, q2, q3, q4, q5, q6⟩ := open_strsS (B := B) g1 (by omega)
        exact ⟨(s0, l), fun g o hc => ⟨⟨An, cn, hc 0 _ rfl, hc 1 _ rfl, q1, q2, q5, q3, q4⟩, z0, q6⟩⟩) h hB
  refine ⟨A, l, c, h1, h2, h3, h4, h5, fun j x hj => ?_, fun j x hj => ?_, mem_at fun j x hj => ?_⟩
  · obtain ⟨g, o, e, ⟨An, cn, q1, q2, q3, q4, q5, q6, _⟩, _⟩ := h6 j x hj
    exact ⟨g, o, An, cn, e, q1, q2, q3, q4, q5, q6⟩
  · obtain ⟨g, o, e, ⟨An, cn, q1, q2, q3, q4, q5, q6, q7⟩, _⟩ := h6 j x hj
    exact q7
  · obtain ⟨g, o, e, _, q8⟩ := h6 j x hj
    exact q8
/-- A derivation, by value; its texts' sizes too. -/
theorem open_drvS {r : Reach} {b0 : Nat} {v : Value} {dt : DataW H} {ps : List MemPlace} (hval : Value.okWide Tryd.prog w r b0 29 v) (hd : DataW.Trod enc Tryd.prog w base (fun _ => true) held 29 v dt ps) (hB : Rows.uptoBulk dt ≤ 1048576) :
    ∃ (d : Drv) (a : DrvA), v = .agg (drvCells d a) ∧ DrvAt w d a ∧ Fits d a ∧ Sized d := by
  obtain ⟨cs, rfl, hsz⟩ := okWide_struct Tryd.underlying29 hval
  obtain ⟨c0, c1, c2, c3, c4, c5, c6, rfl⟩ := arr7 (hsz.trans (show Tryd.prog.cellsOf 29 = 7 by kernel_rfl))
  obtain ⟨fuel, hf⟩ := hd
  obtain ⟨ys, n', _, hyd, _, hyl, hg⟩ := DataW.trod_struct Tryd.underlying29 hf
  match ys, hyl with
  | [y0, y1, y2, y3, y4, y5, y6], _ =>
    have hdt : dt = .agg [y0.1, y1.1, y2.1, y3.1, y4.1, y5.1, y6.1] := by
      have := congrArg Prod.fst hyd
      simpa using this
    subst hdt
    simp only [Rows.uptoBulk, Rows.uptoBulkAll] at hB
    have g0 : DataW.trod enc Tryd.prog w base (fun _ => true) held n' 24 (([c0, c1, c2, c3, c4, c5, c6].drop 0).take (Tryd.prog.cellsOf 24)) = some y0 := hg 0 _ rfl
    rw [show Tryd.prog.cellsOf 24 = 1 by kernel_rfl] at g0
    replace g0 : DataW.trod enc Tryd.prog w base (fun _ => true) held n' 24 [c0] = some y0 := g0
    have g1 : DataW.trod enc Tryd.prog w base (fun _ => true) held n' 25 (([c0, c1, c2, c3, c4, c5, c6].drop 1).take (Tryd.prog.cellsOf 25)) = some y1 := hg 1 _ rfl
    rw [show Tryd.prog.cellsOf 25 = 1 by kernel_rfl] at g1
    replace g1 : DataW.trod enc Tryd.prog w base (fun _ => true) held n' 25 [c1] = some y1 := g1
    have g2 : DataW.trod enc Tryd.prog w base (fun _ => true) held n' 26 (([c0, c1, c2, c3, c4, c5, c6].drop 2).take (Tryd.prog.cellsOf 26)) = some y2 := hg 2 _ rfl
    rw [show Tryd.prog.cellsOf 26 = 1 by kernel_rfl] at g2
    replace g2 : DataW.trod enc Tryd.prog w base (fun _ => true) held n' 26 [c2] = some y2 := g2
    have g3 : DataW.trod enc Tryd.prog w base (fun _ => true) held n' 9 (([c0, c1, c2, c3, c4, c5, c6].drop 3).take (Tryd.prog.cellsOf 9)) = some y3 := hg 3 _ rfl
    rw [show Tryd.prog.cellsOf 9 = 1 by kernel_rfl] at g3
    replace g3 : DataW.trod enc Tryd.prog w base (fun _ => true) held n' 9 [c3] = some y3 := g3
    have g4 : DataW.trod enc Tryd.prog w base (fun _ => true) held n' 9 (([c0, c1, c2, c3, c4, c5, c6].drop 4).take (Tryd.prog.cellsOf 9)) = some y4 := hg 4 _ rfl
    rw [show Tryd.prog.cellsOf 9 = 1 by kernel_rfl] at g4
    replace g4 : DataW.trod enc Tryd.prog w base (fun _ => true) held n' 9 [c4] = some y4 := g4
    have g5 : DataW.trod enc Tryd.prog w base (fun _ => true) held n' 26 (([c0, c1, c2, c3, c4, c5, c6].drop 5).take (Tryd.prog.cellsOf 26)) = some y5 := hg 5 _ rfl
    rw [show Tryd.prog.cellsOf 26 = 1 by kernel_rfl] at g5
    replace g5 : DataW.trod enc Tryd.prog w base (fun _ => true) held n' 26 [c5] = some y5 := g5
    have g6 : DataW.trod enc Tryd.prog w base (fun _ => true) held n' 27 (([c0, c1, c2, c3, c4, c5, c6].drop 6).take (Tryd.prog.cellsOf 27)) = some y6 := hg 6 _ rfl
    rw [show Tryd.prog.cellsOf 27 = 1 by kernel_rfl] at g6
    replace g6 : DataW.trod enc Tryd.prog w base (fun _ => true) held n' 27 [c6] = some y6 := g6
    obtain ⟨A0, l0, k0, rfl, p1, p2, p3, p4, p5, p6⟩ := open_outsS (B := 1048576) g0 (by omega)
    obtain ⟨A1, l1, k1, rfl, q1, q2, q3, q4, q5, q6, q7⟩ := open_insS (B := 1048576) g1 (by omega)
    obtain ⟨A2, l2, k2, rfl, r1, r2, r3, r4, r5, r6⟩ := open_strsS (B := 1048576) g2 (by omega)
    obtain ⟨s3, rfl, z3⟩ := str_size (B := 1048576) g3 (by omega)
    obtain ⟨s4, rfl, z4⟩ := str_size (B := 1048576) g4 (by omega)
    obtain ⟨A5, l5, k5, rfl, t1, t2, t3, t4, t5, t6⟩ := open_strsS (B := 1048576) g5 (by omega)
    obtain ⟨A6, l6, k6, rfl, u1, u2, u3, u4, u5, u6⟩ := open_pairsS (B := 1048576) g6 (by omega)
    exact ⟨⟨l0, l1, l2, s3, s4, l5, l6⟩, ⟨A0, A1, A2, A5, A6, k0, k1, k2, k5, k6⟩, rfl, ⟨p5, q5, r5, t5, u5, p1, q1, r1, t1, u1, p2, q2, r2, t2, u2, p3, r3, t3, u3⟩, ⟨p4, q4, r4, t4, u4, q6⟩, ⟨p6, q7, r6, z3, z4, t6, u6⟩⟩
end
end Go.Proofs.YtbldognffppeiaaDoor
