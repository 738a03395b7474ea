/- A slice literal of one array of bytes, as one law. -/
import Derived.Test.YtmaknbcfnigbmaaDoorDig
import Derived.Great.BuildSlice
namespace Go.Proofs.YtmaknbcfnigbmaaDoor
set_option linter.unusedSimpArgs false
set_option linter.unusedVariables false
theorem fold_set : ∀ (l : List Value) (k : Nat) (A : Array Value), k + l.length ≤ A.size → (l.zipIdx k).foldl (fun cs (x : Value × Nat) => cs.setIfInBounds (0 + x.2) x.1) A = (A.toList.take k ++ (l ++ A.toList.drop (k + l.length))).toArray
  | [], k, A, h => by simp
  | x :: l, k, A, h => by
    rw [List.zipIdx_cons, List.foldl_cons, fold_set l (k + 1) _ (by simp only [List.length_cons] at h; rw [Array.size_setIfInBounds]; omega)]
    congr 1
    have hk : k < A.toList.length := by simp only [List.length_cons] at h; simp; omega
    rw [Array.toList_setIfInBounds, Nat.zero_add]
    have h1 : (A.toList.set k x).take (k + 1) = A.toList.take k ++ [x] := by
      rw [List.take_add_one, List.take_set_of_le (Nat.le_refl _), List.getElem?_set_self hk]
      rfl
    have h2 : (A.toList.set k x).drop (k + 1 + l.length) = A.toList.drop (k + (x :: l).length) := by
      rw [List.drop_set_of_lt (by omega)]
      congr 1
      simp only [List.length_cons]
      omega
    rw [h1, h2]
    simp
theorem fill_one (cs : List Value) (n : Nat) (hn : cs.length = n) (base : Array Value) (hb : base.size = n) : Instr.fill (fun i => some (i * n, n)) base [(0, .agg cs.toArray)] = some cs.toArray := by
  have h := fold_set cs 0 base (by omega)
  have h2 : base.toList.drop (0 + cs.length) = [] := List.drop_of_length_le (by simp; omega)
  rw [h2, List.take_zero, List.append_nil, List.nil_append] at h
  unfold Instr.fill
  simp only [Value.cells, Nat.zero_mul]
  rw [if_neg (by simp; omega)]
  unfold Instr.fill
  rw [← Array.foldl_toList, Array.toList_zipIdx]
  exact congrArg some h
theorem info42 : (Tryd.prog.info? 42).map (fun i => (i.zero, i.size, i.bytes)) = some (some (.agg (cellsB (List.replicate 32 0))), 32, 32) := by kernel_rfl
/-- '[]Digest{row}': one block more. -/
theorem wpList_oneRow {ops : Array Oper} {rest : List Oper} {o : Oper} {a : Act} {w : World} {Q : Exit → Act → World → Prop} (hg : o.guard = none) (x : Operand) (ho : o.op = .buildSlice 40 1 #[(0, x)])
    (row : List UInt8) (h32 : row.length = 32) (hx : a.eval x = .agg (Lib.byteCells row).toArray)
    (h : wpList Tryd.prog ops Q rest (a.put o.dst (.slice (some ⟨w.heap.size, 0, none⟩) 1 1)) (w.alloc (.cells (cellsB row) 42))) : wpList Tryd.prog ops Q (o :: rest) a w := by
  obtain ⟨i0, hi0, hz0, hz1, hz2⟩ := info_parts info42
  refine wpList_buildSlice hg 40 42 1 #[(0, x)] ho (cellsB row) i0 _ Tryd.underlying40 hi0 hz0 (by rw [hz1]; decide) (by rw [hz1]; decide) ?_ h
  have e1 : (#[((0 : Nat), x)].map fun (p : Nat × Operand) => (p.1, a.eval p.2)).toList = [(0, .agg (Lib.byteCells row).toArray)] := by simp [hx]
  have e2 : cellsB row = (Lib.byteCells row).toArray := by simp [cellsB, Lib.byteCells]
  rw [hz1, e2]
  refine (congrArg (Instr.fill (fun i => some (i * 32, 32)) _) e1).trans ?_
  refine fill_one _ 32 (by rw [Lib.byteCells_length]; exact h32) _ (by simp)
end Go.Proofs.YtmaknbcfnigbmaaDoor
