/- Two arrays of bytes, compared. -/
import Derived.Test.YtmaknbcfnigbmaaDoorArr
import Derived.ChangeKeysEq
import Derived.Laws.StructEq
import Derived.Laws.Small
namespace Go.Proofs.YtmaknbcfnigbmaaDoor
open Go.RowKit
section
variable {P : Program} {e : TypeId}
theorem eq_items (he : P.underlying e = some (.int .u8)) (hag : ∀ w, (isAgg e).run P w = .ok false w) (a b : List UInt8) (d : Nat) (w : World) : ∀ is : List Nat, (∀ i ∈ is, i < a.length ∧ i < b.length) →
    (Op.eqItems (d + 1) e 1 (cellsB a) (cellsB b) is).run P w = .ok (is.all fun i => a.getD i 0 == b.getD i 0) w
  | [], _ => by simp [Op.eqItems]
  | i :: is, h => by
    obtain ⟨h1, h2⟩ := h i (by simp)
    have ih := eq_items he hag a b d w is (fun j hj => h j (List.mem_cons_of_mem _ hj))
    have p1 : (part e (cellsB a) (i * 1)).run P w = .ok (.int .u8 (a[i].toNat : Int)) w := by
      simp [part, hag, Nat.mul_one, cellsB_get a i h1, go_sem]
    have p2 : (part e (cellsB b) (i * 1)).run P w = .ok (.int .u8 (b[i].toNat : Int)) w := by
      simp [part, hag, Nat.mul_one, cellsB_get b i h2, go_sem]
    have p3 : (Op.equalIn (d + 1) e (.int .u8 (a[i].toNat : Int)) (.int .u8 (b[i].toNat : Int))).run P w = .ok (a[i] == b[i]) w := by
      have : ((a[i].toNat : Int) == (b[i].toNat : Int)) = (a[i] == b[i]) := by
        rw [Bool.eq_iff_iff, beq_iff_eq, beq_iff_eq]
        exact ⟨fun h => UInt8.toNat_inj.1 (by omega), fun h => by rw [h]⟩
      simp [Op.equalIn, run_underlying he, this]
    simp only [Op.eqItems, Sem.run_bind, p1, p2, p3, Result.andThen_ok]
    have g1 : a.getD i 0 = a[i] := by simp [List.getD, h1]
    have g2 : b.getD i 0 = b[i] := by simp [List.getD, h2]
    rw [List.all_cons, g1, g2]
    cases hc : (a[i] == b[i])
    · simp
    · simpa using ih
theorem all_range (a b : List UInt8) (n : Nat) (ha : a.length = n) (hb : b.length = n) : ((List.range n).all fun i => a.getD i 0 == b.getD i 0) = (a == b) := by
  rw [Bool.eq_iff_iff, List.all_eq_true, beq_iff_eq]
  constructor
  · intro h
    apply List.ext_getElem (by omega)
    intro i h1 h2
    have := h i (List.mem_range.2 (by omega))
    simpa [List.getD, h1, h2] using this
  · rintro rfl i _
    simp
theorem run_equal_bytes {t : TypeId} {n : Nat} {i : TypeInfo} (ht : P.underlying t = some (.array n e)) (hi : P.info? e = some i) (hce : P.cellsOf e = 1) (he : P.underlying e = some (.int .u8)) (hag : ∀ w, (isAgg e).run P w = .ok false w)
    (a b : List UInt8) (ha : a.length = n) (hb : b.length = n) (w : World) : (Op.equal t (.agg (cellsB a)) (.agg (cellsB b))).run P w = .ok (a == b) w := by
  show (Op.equalIn 10000 t _ _).run P w = _
  rw [run_equalIn_array w 9999 _ _ ht hi, hce, eq_items he hag a b 9998 w _ (fun i hi => ⟨by rw [ha]; exact List.mem_range.1 hi, by rw [hb]; exact List.mem_range.1 hi⟩), all_range a b n ha hb]
end
end Go.Proofs.YtmaknbcfnigbmaaDoor
