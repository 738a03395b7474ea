/- A derivation among the arguments, opened: its lists in memory, its size against the bulk. -/
import Derived.Test.YtbldognffppeiaaDoorCards
import Derived.Test.YtbldognffppeiaaDoorAtOwn
import Derived.Test.YtbldognffppeiaaDoorRowWords
import Derived.DataReads
import Derived.SizedLaws
import Derived.Lib.SmallJoins
namespace Go.Proofs.YtbldognffppeiaaDoor
open Go.ChangeShapes Go.WideShapes Go.ChangeAt Go.RowKit
set_option linter.unusedSimpArgs false
set_option linter.unusedVariables false
set_option maxRecDepth 100000
section
variable {H : Type} {enc : TypeId × Value → H} {w : World} {base : Nat} {held : Bool}
theorem bulk_pos (d : DataW H) : 1 ≤ Rows.uptoBulk d := by
  cases d with
  | lit l => cases l <;> simp [Rows.uptoBulk]
  | _ => simp [Rows.uptoBulk]
theorem bulkAll_len : ∀ l : List (DataW H), l.length ≤ Rows.uptoBulkAll l
  | [] => Nat.le_refl _
  | d :: r => by
    have h1 := bulk_pos d
    have h2 := bulkAll_len r
    simp only [Rows.uptoBulkAll, List.length_cons]
    omega
theorem bulkAll_mem {d : DataW H} : ∀ {l : List (DataW H)}, d ∈ l → Rows.uptoBulk d ≤ Rows.uptoBulkAll l
  | [], h => by cases h
  | x :: r, h => by
    simp only [Rows.uptoBulkAll]
    rcases List.mem_cons.1 h with rfl | h
    · omega
    · have := bulkAll_mem h
      omega
theorem list_all {α : Type} (R : Nat → α → Prop) : ∀ n, (∀ i, i < n → ∃ x, R i x) → ∃ l : List α, l.length = n ∧ ∀ i x, l[i]? = some x → R i x
  | 0, _ => ⟨[], rfl, fun i x h => by simp at h⟩
  | n + 1, h => by
    obtain ⟨l, hl, hx⟩ := list_all R n (fun i hi => h i (by omega))
    obtain ⟨y, hy⟩ := h n (by omega)
    refine ⟨l ++ [y], by simp [hl], fun i x hi => ?_⟩
    rcases Nat.lt_trichotomy i n with h1 | h1 | h1
    · rw [List.getElem?_append_left (by omega)] at hi
      exact hx i x hi
    · subst h1
      rw [List.getElem?_append_right (by omega)] at hi
      simp [hl] at hi
      subst hi
      exact hy
    · rw [List.getElem?_eq_none (by simp; omega)] at hi
      cases hi
theorem addr_plain {a : Addr} {v : Value} (h : w.cell? a = some v) : ∃ g o, a = ⟨g, o, none⟩ := by
  obtain ⟨g, o, sp⟩ := a
  rcases sp with _ | s
  · exact ⟨g, o, rfl⟩
  · unfold World.cell? at h
    split at h
    · simp at h
    · cases h
/-- A slice among what is read, its elements opened one by one. -/
theorem open_list {α : Type} {t e : TypeId} {sz : Nat} (ht : Tryd.prog.underlying t = some (.slice e)) (hce : Tryd.prog.cellsOf e = sz) (hsz : 0 < sz) (R : Nat → Nat → Nat → α → Prop) (B : Nat)
    (hel : ∀ (n i : Nat) (cs : List Value) (y : DataW H × List MemPlace), DataW.trod enc Tryd.prog w base (fun _ => true) held n e cs = some y → Rows.uptoBulk y.1 ≤ B → cs.length = sz → ∃ x : α, ∀ g o, (∀ j u, cs[j]? = some u → w.cell? ⟨g, o + i * sz + j, none⟩ = some u) → R g o i x)
    {n : Nat} {v : Value} {y : DataW H × List MemPlace} (h : DataW.trod enc Tryd.prog w base (fun _ => true) held n t [v] = some y) (hB : Rows.uptoBulk y.1 ≤ B) :
    ∃ (A : Option Addr) (l : List α) (c : Nat), v = .slice A l.length c ∧ l.length ≤ c ∧ c ≤ maxLen ∧ (A = none → l.length = 0 ∧ c = 0) ∧ l.length ≤ B ∧ ∀ (j : Nat) (x : α), l[j]? = some x → ∃ g o, A = some ⟨g, o, none⟩ ∧ R g o j x := by
  rcases DataW.trod_slice ht h with ⟨hcs, _⟩ | ⟨a, len, cap, elems, rest, m, _, hcs, hx, _, hl, hm, hlen, hel2, _, _⟩
  · simp at hcs
    subst hcs
    exact ⟨none, [], 0, rfl, Nat.le_refl _, Nat.zero_le _, fun _ => ⟨rfl, rfl⟩, Nat.zero_le _, fun j x hj => by simp at hj⟩
  · simp at hcs
    subst hcs
    subst hx
    simp only [Rows.uptoBulk] at hB
    have hall : ∀ i, i < len → ∃ (cs : List Value), cs.length = sz ∧ (∀ j (h : j < cs.length), w.cell? ((a.add (i * sz)).add j) = some cs[j]) ∧ ∃ x : α, ∀ g o, (∀ j u, cs[j]? = some u → w.cell? ⟨g, o + i * sz + j, none⟩ = some u) → R g o i x := fun i hi => by
      have h1 := hel2 i hi
      have hil : i < elems.length := by omega
      rw [hce, List.getElem?_eq_getElem hil, Option.bind_eq_some_iff] at h1
      obtain ⟨cs, hc1, hc2⟩ := h1
      obtain ⟨_, h3, h4⟩ := World.cells?_some hc1
      have hmem : (elems[i]).1 ∈ elems.map (·.1) := List.mem_map_of_mem (List.getElem_mem hil)
      have hb := bulkAll_mem hmem
      refine ⟨cs, h3, fun j hj => ?_, hel m i cs _ hc2 (by omega) h3⟩
      have h5 := h4 j (by omega)
      first | exact h5 | (rw [List.getElem?_eq_getElem hj] at h5; exact h5)
    have hlB : len ≤ B := by
      have := bulkAll_len (elems.map (·.1))
      rw [List.length_map] at this
      omega
    rcases Nat.eq_zero_or_pos len with h0 | h0
    · subst h0
      exact ⟨some a, [], cap, rfl, hl, hm, (fun h => by cases h), Nat.zero_le _, fun j x hj => by simp at hj⟩
    · have hpl : ∃ g o, a = ⟨g, o, none⟩ := by
        obtain ⟨cs, h1, h2, _⟩ := hall 0 h0
        have h3 := h2 0 (by omega)
        simp only [Nat.zero_mul] at h3
        have h4 : w.cell? a = some (cs[0]'(by omega)) := by simpa [Addr.add] using h3
        exact addr_plain h4
      obtain ⟨g, o, rfl⟩ := hpl
      obtain ⟨l, hll, hlx⟩ := list_all (fun i (x : α) => R g o i x) len (fun i hi => by
        obtain ⟨cs, h1, h2, x, hx⟩ := hall i hi
        refine ⟨x, hx g o (fun j u hj => ?_)⟩
        have hjl := (List.getElem?_eq_some_iff.1 hj).1
        have h3 := h2 j hjl
        rw [Addr.add_mid, Addr.add_mid] at h3
        rw [List.getElem?_eq_getElem hjl] at hj
        rw [h3]
        exact hj)
      subst hll
      exact ⟨some ⟨g, o, none⟩, l, cap, rfl, hl, hm, (fun h => by cases h), hlB, fun j x hj => ⟨g, o, rfl, hlx j x hj⟩⟩
theorem open_strs {n : Nat} {v : Value} {y : DataW H × List MemPlace} {B : Nat} (h : DataW.trod enc Tryd.prog w base (fun _ => true) held n 26 [v] = some y) (hB : Rows.uptoBulk y.1 ≤ B) :
    ∃ (A : Option Addr) (l : List ByteArray) (c : Nat), v = .slice A l.length c ∧ l.length ≤ c ∧ c ≤ maxLen ∧ (A = none → l.length = 0 ∧ c = 0) ∧ l.length ≤ B ∧ StrsAt w A l := by
  refine open_list Tryd.underlying26 (show Tryd.prog.cellsOf 9 = 1 by kernel_rfl) (by decide) (fun g o i (x : ByteArray) => w.cell? ⟨g, o + i, none⟩ = some (.string x)) B (fun n i cs y hy _ hl => ?_) h hB
  obtain ⟨s, rfl, _, _⟩ := DataW.trod_string Tryd.underlying9 hy
  exact ⟨s, fun g o hc => by have := hc 0 _ rfl; simpa using this⟩
theorem open_outs {n : Nat} {v : Value} {y : DataW H × List MemPlace} {B : Nat} (h : DataW.trod enc Tryd.prog w base (fun _ => true) held n 24 [v] = some y) (hB : Rows.uptoBulk y.1 ≤ B) :
    ∃ (A : Option Addr) (l : List (ByteArray × ByteArray × ByteArray)) (c : Nat), v = .slice A l.length c ∧ l.length ≤ c ∧ c ≤ maxLen ∧ (A = none → l.length = 0 ∧ c = 0) ∧ l.length ≤ B ∧ OutsAt w A l := by
  refine open_list Tryd.underlying24 (show Tryd.prog.cellsOf 49 = 3 by kernel_rfl) (by decide) (fun g o i (x : ByteArray × ByteArray × ByteArray) => w.cell? ⟨g, o + i * 3, none⟩ = some (.string x.1) ∧ w.cell? ⟨g, o + i * 3 + 1, none⟩ = some (.string x.2.1) ∧ w.cell? ⟨g, o + i * 3 + 2, none⟩ = some (.string x.2.2)) B (fun n i cs y hy _ hl => ?_) h hB
  obtain ⟨ys, n', _, _, _, hyl, hg⟩ := DataW.trod_struct Tryd.underlying49 hy
  match cs, hl with
  | [c0, c1, c2], _ =>
    match ys, hyl with
    | [y0, y1, y2], _ =>
      have g0 : DataW.trod enc Tryd.prog w base (fun _ => true) held n' 9 (([c0, c1, c2].drop 0).take (Tryd.prog.cellsOf 9)) = some y0 := hg 0 _ rfl
      rw [show Tryd.prog.cellsOf 9 = 1 by kernel_rfl] at g0
      replace g0 : DataW.trod enc Tryd.prog w base (fun _ => true) held n' 9 [c0] = some y0 := g0
      have g1 : DataW.trod enc Tryd.prog w base (fun _ => true) held n' 9 (([c0, c1, c2].drop 1).take (Tryd.prog.cellsOf 9)) = some y1 := hg 1 _ rfl
      rw [show Tryd.prog.cellsOf 9 = 1 by kernel_rfl] at g1
      replace g1 : DataW.trod enc Tryd.prog w base (fun _ => true) held n' 9 [c1] = some y1 := g1
      have g2 : DataW.trod enc Tryd.prog w base (fun _ => true) held n' 9 (([c0, c1, c2].drop 2).take (Tryd.prog.cellsOf 9)) = some y2 := hg 2 _ rfl
      rw [show Tryd.prog.cellsOf 9 = 1 by kernel_rfl] at g2
      replace g2 : DataW.trod enc Tryd.prog w base (fun _ => true) held n' 9 [c2] = some y2 := g2
      obtain ⟨s0, e0, _, _⟩ := DataW.trod_string Tryd.underlying9 g0
      obtain ⟨s1, e1, _, _⟩ := DataW.trod_string Tryd.underlying9 g1
      obtain ⟨s2, e2, _, _⟩ := DataW.trod_string Tryd.underlying9 g2
      simp at e0 e1 e2
      subst e0 e1 e2
      exact ⟨(s0, s1, s2), fun g o hc => ⟨hc 0 _ rfl, hc 1 _ rfl, hc 2 _ rfl⟩⟩
theorem open_pairs {n : Nat} {v : Value} {y : DataW H × List MemPlace} {B : Nat} (h : DataW.trod enc Tryd.prog w base (fun _ => true) held n 27 [v] = some y) (hB : Rows.uptoBulk y.1 ≤ B) :
    ∃ (A : Option Addr) (l : List (ByteArray × ByteArray)) (c : Nat), v = .slice A l.length c ∧ l.length ≤ c ∧ c ≤ maxLen ∧ (A = none → l.length = 0 ∧ c = 0) ∧ l.length ≤ B ∧ PairsAt w A l := by
  refine open_list Tryd.underlying27 (show Tryd.prog.cellsOf 70 = 2 by kernel_rfl) (by decide) (fun g o i (x : ByteArray × ByteArray) => w.cell? ⟨g, o + i * 2, none⟩ = some (.string x.1) ∧ w.cell? ⟨g, o + i * 2 + 1, none⟩ = some (.string x.2)) B (fun n i cs y hy _ hl => ?_) h hB
  obtain ⟨ys, n', _, _, _, hyl, hg⟩ := DataW.trod_struct Tryd.underlying70 hy
  match cs, hl with
  | [c0, c1], _ =>
    match ys, hyl with
    | [y0, y1], _ =>
      have g0 : DataW.trod enc Tryd.prog w base (fun _ => true) held n' 9 (([c0, c1].drop 0).take (Tryd.prog.cellsOf 9)) = some y0 := hg 0 _ rfl
      rw [show Tryd.prog.cellsOf 9 = 1 by kernel_rfl] at g0
      replace g0 : DataW.trod enc Tryd.prog w base (fun _ => true) held n' 9 [c0] = some y0 := g0
      have g1 : DataW.trod enc Tryd.prog w base (fun _ => true) held n' 9 (([c0, c1].drop 1).take (Tryd.prog.cellsOf 9)) = some y1 := hg 1 _ rfl
      rw [show Tryd.prog.cellsOf 9 = 1 by kernel_rfl] at g1
      replace g1 : DataW.trod enc Tryd.prog w base (fun _ => true) held n' 9 [c1] = some y1 := g1
      obtain ⟨s0, e0, _, _⟩ := DataW.trod_string Tryd.underlying9 g0
      obtain ⟨s1, e1, _, _⟩ := DataW.trod_string Tryd.underlying9 g1
      simp at e0 e1
      subst e0 e1
      exact ⟨(s0, s1), fun g o hc => ⟨hc 0 _ rfl, hc 1 _ rfl⟩⟩
/-- What lies of an input. -/
def InAt (w : World) (B : Nat) (g o i : Nat) (x : ByteArray × List ByteArray) : Prop := ∃ An cn, w.cell? ⟨g, o + i * 2, none⟩ = some (.string x.1) ∧ w.cell? ⟨g, o + i * 2 + 1, none⟩ = some (.slice An x.2.length cn) ∧ x.2.length ≤ cn ∧ cn ≤ maxLen ∧ StrsAt w An x.2 ∧ (An = none → x.2.length = 0 ∧ cn = 0) ∧ x.2.length ≤ B
theorem open_ins {n : Nat} {v : Value} {y : DataW H × List MemPlace} {B : Nat} (h : DataW.trod enc Tryd.prog w base (fun _ => true) held n 25 [v] = some y) (hB : Rows.uptoBulk y.1 ≤ B) :
    ∃ (A : Option Addr) (l : List (ByteArray × List ByteArray)) (c : Nat), v = .slice A l.length c ∧ l.length ≤ c ∧ c ≤ maxLen ∧ (A = none → l.length = 0 ∧ c = 0) ∧ l.length ≤ B ∧ InsAt w A l ∧ ∀ (j : Nat) (x : ByteArray × List ByteArray), l[j]? = some x → x.2.length ≤ B := by
  obtain ⟨A, l, c, h1, h2, h3, h4, h5, h6⟩ := open_list Tryd.underlying25 (show Tryd.prog.cellsOf 61 = 2 by kernel_rfl) (by decide) (InAt w B) B (fun n i cs y hy hyB hl => by
    obtain ⟨ys, n', _, hyd, _, hyl, hg⟩ := DataW.trod_struct Tryd.underlying61 hy
    match cs, hl with
    | [c0, c1], _ =>
      match ys, hyl with
      | [y0, y1], _ =>
        have g0 : DataW.trod enc Tryd.prog w base (fun _ => true) held n' 9 (([c0, c1].drop 0).take (Tryd.prog.cellsOf 9)) = some y0 := hg 0 _ rfl
        rw [show Tryd.prog.cellsOf 9 = 1 by kernel_rfl] at g0
        replace g0 : DataW.trod enc Tryd.prog w base (fun _ => true) held n' 9 [c0] = some y0 := g0
        have g1 : DataW.trod enc Tryd.prog w base (fun _ => true) held n' 26 (([c0, c1].drop 1).take (Tryd.prog.cellsOf 26)) = some y1 := hg 1 _ rfl
        rw [show Tryd.prog.cellsOf 26 = 1 by kernel_rfl] at g1
        replace g1 : DataW.trod enc Tryd.prog w base (fun _ => true) held n' 26 [c1] = some y1 := g1
        obtain ⟨s0, e0, _, _⟩ := DataW.trod_string Tryd.underlying9 g0
        have hb1 : Rows.uptoBulk y1.1 ≤ B := by
          subst hyd
          simp only [List.map_cons, List.map_nil, Rows.uptoBulk, Rows.uptoBulkAll] at hyB
          omega
        obtain ⟨An, l, cn, rfl, q1, q2, q3, q4, q5⟩ := open_strs g1 hb1
        simp at e0
        subst e0
        exact ⟨(s0, l), fun g o hc => ⟨An, cn, hc 0 _ rfl, hc 1 _ rfl, q1, q2, q5, q3, q4⟩⟩) h hB
  refine ⟨A, l, c, h1, h2, h3, h4, h5, fun j x hj => ?_, fun j x hj => ?_⟩
  · obtain ⟨g, o, e, An, cn, q1, q2, q3, q4, q5, q6, _⟩ := h6 j x hj
    exact ⟨g, o, An, cn, e, q1, q2, q3, q4, q5, q6⟩
  · obtain ⟨g, o, e, An, cn, q1, q2, q3, q4, q5, q6, q7⟩ := h6 j x hj
    exact q7
theorem arr7 {α : Type} {cs : Array α} (h : cs.size = 7) : ∃ c0 c1 c2 c3 c4 c5 c6, cs = #[c0, c1, c2, c3, c4, c5, c6] := by
  obtain ⟨l⟩ := cs
  match l, h with
  | [c0, c1, c2, c3, c4, c5, c6], _ => exact ⟨c0, c1, c2, c3, c4, c5, c6, rfl⟩
/-- A derivation, by value. -/
theorem open_drv {r : Reach} {b0 : Nat} {v : Value} {dt : DataW H} {ps : List MemPlace} (hval : Value.okWide Tryd.prog w r b0 29 v) (hd : DataW.Trod enc Tryd.prog w base (fun _ => true) held 29 v dt ps) (hB : Rows.uptoBulk dt ≤ 1048576) :
    ∃ (d : Drv) (a : DrvA), v = .agg (drvCells d a) ∧ DrvAt w d a ∧ Fits d a := by
  obtain ⟨cs, rfl, hsz⟩ := okWide_struct Tryd.underlying29 hval
  obtain ⟨c0, c1, c2, c3, c4, c5, c6, rfl⟩ := arr7 (hsz.trans (show Tryd.prog.cellsOf 29 = 7 by kernel_rfl))
  obtain ⟨fuel, hf⟩ := hd
  obtain ⟨ys, n', _, hyd, _, hyl, hg⟩ := DataW.trod_struct Tryd.underlying29 hf
  match ys, hyl with
  | [y0, y1, y2, y3, y4, y5, y6], _ =>
    have hdt : dt = .agg [y0.1, y1.1, y2.1, y3.1, y4.1, y5.1, y6.1] := by
      have := congrArg Prod.fst hyd
      simpa using this
    subst hdt
    simp only [Rows.uptoBulk, Rows.uptoBulkAll] at hB
    have g0 : DataW.trod enc Tryd.prog w base (fun _ => true) held n' 24 (([c0, c1, c2, c3, c4, c5, c6].drop 0).take (Tryd.prog.cellsOf 24)) = some y0 := hg 0 _ rfl
    rw [show Tryd.prog.cellsOf 24 = 1 by kernel_rfl] at g0
    replace g0 : DataW.trod enc Tryd.prog w base (fun _ => true) held n' 24 [c0] = some y0 := g0
    have g1 : DataW.trod enc Tryd.prog w base (fun _ => true) held n' 25 (([c0, c1, c2, c3, c4, c5, c6].drop 1).take (Tryd.prog.cellsOf 25)) = some y1 := hg 1 _ rfl
    rw [show Tryd.prog.cellsOf 25 = 1 by kernel_rfl] at g1
    replace g1 : DataW.trod enc Tryd.prog w base (fun _ => true) held n' 25 [c1] = some y1 := g1
    have g2 : DataW.trod enc Tryd.prog w base (fun _ => true) held n' 26 (([c0, c1, c2, c3, c4, c5, c6].drop 2).take (Tryd.prog.cellsOf 26)) = some y2 := hg 2 _ rfl
    rw [show Tryd.prog.cellsOf 26 = 1 by kernel_rfl] at g2
    replace g2 : DataW.trod enc Tryd.prog w base (fun _ => true) held n' 26 [c2] = some y2 := g2
    have g3 : DataW.trod enc Tryd.prog w base (fun _ => true) held n' 9 (([c0, c1, c2, c3, c4, c5, c6].drop 3).take (Tryd.prog.cellsOf 9)) = some y3 := hg 3 _ rfl
    rw [show Tryd.prog.cellsOf 9 = 1 by kernel_rfl] at g3
    replace g3 : DataW.trod enc Tryd.prog w base (fun _ => true) held n' 9 [c3] = some y3 := g3
    have g4 : DataW.trod enc Tryd.prog w base (fun _ => true) held n' 9 (([c0, c1, c2, c3, c4, c5, c6].drop 4).take (Tryd.prog.cellsOf 9)) = some y4 := hg 4 _ rfl
    rw [show Tryd.prog.cellsOf 9 = 1 by kernel_rfl] at g4
    replace g4 : DataW.trod enc Tryd.prog w base (fun _ => true) held n' 9 [c4] = some y4 := g4
    have g5 : DataW.trod enc Tryd.prog w base (fun _ => true) held n' 26 (([c0, c1, c2, c3, c4, c5, c6].drop 5).take (Tryd.prog.cellsOf 26)) = some y5 := hg 5 _ rfl
    rw [show Tryd.prog.cellsOf 26 = 1 by kernel_rfl] at g5
    replace g5 : DataW.trod enc Tryd.prog w base (fun _ => true) held n' 26 [c5] = some y5 := g5
    have g6 : DataW.trod enc Tryd.prog w base (fun _ => true) held n' 27 (([c0, c1, c2, c3, c4, c5, c6].drop 6).take (Tryd.prog.cellsOf 27)) = some y6 := hg 6 _ rfl
    rw [show Tryd.prog.cellsOf 27 = 1 by kernel_rfl] at g6
    replace g6 : DataW.trod enc Tryd.prog w base (fun _ => true) held n' 27 [c6] = some y6 := g6
    obtain ⟨A0, l0, k0, rfl, p1, p2, p3, p4, p5⟩ := open_outs (B := 1048576) g0 (by omega)
    obtain ⟨A1, l1, k1, rfl, q1, q2, q3, q4, q5, q6⟩ := open_ins (B := 1048576) g1 (by omega)
    obtain ⟨A2, l2, k2, rfl, r1, r2, r3, r4, r5⟩ := open_strs (B := 1048576) g2 (by omega)
    obtain ⟨s3, e3, _, _⟩ := DataW.trod_string Tryd.underlying9 g3
    obtain ⟨s4, e4, _, _⟩ := DataW.trod_string Tryd.underlying9 g4
    obtain ⟨A5, l5, k5, rfl, t1, t2, t3, t4, t5⟩ := open_strs (B := 1048576) g5 (by omega)
    obtain ⟨A6, l6, k6, rfl, u1, u2, u3, u4, u5⟩ := open_pairs (B := 1048576) g6 (by omega)
    simp at e3 e4
    subst e3 e4
    exact ⟨⟨l0, l1, l2, s3, s4, l5, l6⟩, ⟨A0, A1, A2, A5, A6, k0, k1, k2, k5, k6⟩, rfl, ⟨p5, q5, r5, t5, u5, p1, q1, r1, t1, u1, p2, q2, r2, t2, u2, p3, r3, t3, u3⟩, ⟨p4, q4, r4, t4, u4, q6⟩⟩
end
end Go.Proofs.YtbldognffppeiaaDoor
