/- A map keyed by arrays of bytes: what a key reads as. -/
import Derived.Test.YtmaknbcfnigbmaaDoorDig
import Derived.Maps.OwnSet
import Derived.DeepKeys4
namespace Go.Proofs.YtmaknbcfnigbmaaDoor
open Go.Maps (Keyed)
set_option linter.unusedSimpArgs false
set_option linter.unusedVariables false
theorem mapM_all {α β : Type} (f : α → Option β) (g : α → β) : ∀ l : List α, (∀ x ∈ l, f x = some (g x)) → l.mapM f = some (l.map g)
  | [], _ => rfl
  | x :: l, h => by
    rw [List.mapM_cons, h x (by simp), mapM_all f g l (fun y hy => h y (List.mem_cons_of_mem _ hy))]
    rfl
theorem flat_one {α : Type} : ∀ l : List α, (l.map fun x => [x]).flatten = l
  | [] => rfl
  | x :: l => by rw [List.map_cons, List.flatten_cons, flat_one l]; rfl
theorem byte_wf (b : UInt8) : (Lit.int .u8 (b.toNat : Int)).wf = true := by
  have := UInt8.toNat_lt b
  simp [Lit.wf, IntKind.min, IntKind.max, IntKind.signed, IntKind.bits]
  omega
theorem keyLits_bytes {P : Program} {t e : TypeId} {n d : Nat} (ht : P.underlying t = some (.array n e)) (he : P.underlying e = some (.int .u8)) (hce : P.cellsOf e = 1) (hct : P.cellsOf t = n) (l : List UInt8) (hl : l.length = n) :
    P.keyLits (d + 2) t (Lib.byteCells l) = some (l.map fun b => Lit.int .u8 (b.toNat : Int)) := by
  unfold Program.keyLits
  rw [ht]
  simp only [hce, hct, Nat.mul_one, Lib.byteCells_length, hl, if_true]
  rw [mapM_all _ (fun i => [Lit.int .u8 ((l.getD i 0).toNat : Int)])]
  · simp only [Option.map_some, Option.some.injEq]
    apply List.ext_getElem?
    intro i
    rw [show ((List.range n).map fun i => [Lit.int .u8 ((l.getD i 0).toNat : Int)]) = ((List.range n).map fun i => Lit.int .u8 ((l.getD i 0).toNat : Int)).map (fun x => [x]) by simp, flat_one]
    rw [List.getElem?_map, List.getElem?_map]
    by_cases hi : i < n
    · rw [List.getElem?_range hi, List.getElem?_eq_getElem (by omega)]
      simp [List.getD_eq_getElem?_getD, List.getElem?_eq_getElem (show i < l.length by omega)]
    · rw [List.getElem?_eq_none (by simpa using hi), List.getElem?_eq_none (by omega)]
      rfl
  · intro i hi
    have hi2 : i < n := by simpa using hi
    have h1 : ((Lib.byteCells l).drop i).take 1 = [Value.int .u8 ((l.getD i 0).toNat : Int)] := by
      rw [List.drop_eq_getElem_cons (by rw [Lib.byteCells_length]; omega)]
      simp [Lib.byteCells, List.getD_eq_getElem?_getD, List.getElem?_eq_getElem (show i < l.length by omega)]
    rw [h1]
    unfold Program.keyLits
    rw [he]
    generalize l.getD i 0 = b
    simp [byte_wf b]
theorem keyBytes_u8 : ∀ l : List UInt8, keyBytes (l.map fun b => Lit.int .u8 (b.toNat : Int)) = l
  | [] => rfl
  | b :: l => by
    have h := keyBytes_u8 l
    unfold keyBytes at h ⊢
    rw [List.map_cons, List.flatMap_cons, h]
    have : (Lit.int .u8 (b.toNat : Int)).keyBytes = [b] := by
      have h1 := UInt8.toNat_lt b
      have h2 : ((b.toNat : Int) % 256).toNat = b.toNat := by omega
      simp [Lit.keyBytes, IntKind.bits, bytesBE, bytesLE, h2]
    rw [this]
    rfl
theorem key_arr (l : List UInt8) (hl : l.length = 32) : keyOf Tryd.prog 42 (.agg (cellsB l)) = some (.string l) := by
  unfold keyOf
  rw [Tryd.underlying42]
  have h1 : Tryd.prog.keyType 42 = true := by kernel_rfl
  have hct : Tryd.prog.cellsOf 42 = 32 := by kernel_rfl
  have hce : Tryd.prog.cellsOf 5 = 1 := by kernel_rfl
  have h2 : (Value.agg (cellsB l)).formed Tryd.prog 42 = true := by
    unfold Value.formed
    rw [Tryd.underlying42]
    simp only [hct, cellsB_size, hl, beq_self_eq_true]
  have h3 : (Value.agg (cellsB l)).cells.toList = Lib.byteCells l := by simp [Value.cells, cellsB, Lib.byteCells]
  obtain ⟨m, hm⟩ : ∃ m, Tryd.prog.types.size + 1 = m + 2 := ⟨Tryd.prog.types.size - 1, by have : 1 ≤ Tryd.prog.types.size := of_decide_eq_true (by kernel_rfl); omega⟩
  simp only [h1, h2, Bool.and_self, if_true, h3, hm]
  rw [keyLits_bytes Tryd.underlying42 Tryd.underlying5 hce hct l hl]
  simp [keyBytes_u8]
theorem arr_keyed : Keyed Tryd.prog 42 :=
  Keyed.of_law (deep_law_laid (m := 3) (by kernel_rfl) (by omega) (of_decide_eq_true (by kernel_rfl)) (by kernel_rfl) (by rw [Tryd.underlying42]))
end Go.Proofs.YtmaknbcfnigbmaaDoor
