/- DigestFolds: the plain law on folded bytes, joined to the walk. -/
import Derived.Test.YtmaknbcfnigbmaaWalkFolds
import Derived.Test.YtmaknbcfnigbmaaSig2
namespace Go.Proofs.Ytmaknbcfnigbmaa
set_option linter.unusedSimpArgs false
open Go.RowKit Sig
theorem xor_zero_iff (a b : UInt8) : a ^^^ b = a ↔ b = 0 := by
  constructor
  · intro h
    have h2 : a ^^^ (a ^^^ b) = a ^^^ a := congrArg (a ^^^ ·) h
    rw [← UInt8.xor_assoc, UInt8.xor_self, UInt8.zero_xor] at h2
    exact h2
  · intro h; rw [h, UInt8.xor_zero]
/-- A byte that is laid over one of the digest's lies over one of the folded ones. -/
theorem fold_set (l : List UInt8) (a : Nat) (b : UInt8) (ha : a < l.length) : ∀ k, k ≤ l.length →
    fold (l.set a (l.getD a 0 ^^^ b)) k = if a < k then (fold l k).set (a % 20) ((fold l k).getD (a % 20) 0 ^^^ b) else fold l k := by
  intro k
  induction k with
  | zero => intro _; simp [fold]
  | succ k ih =>
    intro hk
    have hm : k % 20 < (fold l k).length := by rw [fold_length]; exact Nat.mod_lt _ (by decide)
    have hma : a % 20 < (fold l k).length := by rw [fold_length]; exact Nat.mod_lt _ (by decide)
    simp only [fold]
    rw [ih (by omega)]
    by_cases h1 : a < k
    · have hne : a ≠ k := by omega
      rw [if_pos h1, if_pos (by omega)]
      have hg : (l.set a (l.getD a 0 ^^^ b)).getD k 0 = l.getD k 0 := by
        simp [List.getD, List.getElem?_set, hne]
      rw [hg]
      by_cases h2 : a % 20 = k % 20
      · rw [h2]
        apply List.ext_getElem
        · simp
        · intro i hi1 hi2
          simp only [List.length_set] at hi1
          by_cases h3 : k % 20 = i
          · subst h3
            simp [List.getD, List.getElem_set, hm, UInt8.xor_assoc, UInt8.xor_comm b]
          · simp [List.getElem_set, h3]
      · apply List.ext_getElem
        · simp
        · intro i hi1 hi2
          simp only [List.length_set] at hi1
          have h2' : k % 20 ≠ a % 20 := fun e => h2 e.symm
          by_cases h3 : k % 20 = i
          · subst h3
            simp [List.getD, List.getElem_set, List.getElem?_set, hm, h2]
          · by_cases h4 : a % 20 = i
            · subst h4
              simp [List.getD, List.getElem_set, List.getElem?_set, hma, h3]
            · simp [List.getElem_set, h3, h4]
    · rw [if_neg h1]
      by_cases h5 : a = k
      · subst h5
        rw [if_pos (by omega)]
        apply List.ext_getElem
        · simp
        · intro i hi1 hi2
          simp only [List.length_set] at hi1
          by_cases h3 : a % 20 = i
          · subst h3
            simp [List.getD, List.getElem_set, List.getElem?_set, hm, ha, UInt8.xor_assoc]
          · simp [List.getElem_set, h3]
      · rw [if_neg (by omega)]
        have hg : (l.set a (l.getD a 0 ^^^ b)).getD k 0 = l.getD k 0 := by
          simp [List.getD, List.getElem?_set, h5]
        rw [hg]
theorem set_xor_iff (F : List UInt8) (j : Nat) (b : UInt8) (hj : j < F.length) : F.set j (F.getD j 0 ^^^ b) = F ↔ b = 0 := by
  have hg : F.getD j 0 = F[j] := by simp [List.getD, hj]
  rw [hg]
  constructor
  · intro h
    have h2 : (F.set j (F[j] ^^^ b))[j]? = F[j]? := by rw [h]
    simp [hj] at h2
    exact (xor_zero_iff _ _).mp h2
  · intro h
    rw [h, UInt8.xor_zero, List.set_getElem_self]
theorem set_xor_twice (F : List UInt8) (j : Nat) (b : UInt8) (hj : j < F.length) : (F.set j (F.getD j 0 ^^^ b)).set j ((F.set j (F.getD j 0 ^^^ b)).getD j 0 ^^^ b) = F := by
  have hg : F.getD j 0 = F[j] := by simp [List.getD, hj]
  have hg2 : (F.set j (F.getD j 0 ^^^ b)).getD j 0 = F.getD j 0 ^^^ b := by simp [List.getD, hj]
  rw [hg2, List.set_set, UInt8.xor_assoc, UInt8.xor_self, UInt8.xor_zero, hg, List.set_getElem_self]
theorem cells_xor (l : List UInt8) (i : Nat) (b : UInt8) (h : i < l.length) : (cellsB l).setIfInBounds i (.int .u8 (bits BinOp.xor IntKind.u8 (l[i].toNat : Int) (b.toNat : Int))) = cellsB (l.set i (l.getD i 0 ^^^ b)) := by
  have hg : l.getD i 0 = l[i] := by simp [List.getD, h]
  rw [u8_xor_nat _ _ (UInt8.toNat_lt _) (UInt8.toNat_lt _), ← UInt8.toNat_xor, cellsB_set, hg]
/-- The law answers true. -/
theorem folds_walk (l : List UInt8) (hl : l.length = 32) (at_ : Int) (by_ : UInt8) (w : World) (hw : (Lit.int .i64 at_).wf = true) :
    Calls Try.prog 6 #[.agg (cellsB l), .int .i64 at_, .int .u8 (by_.toNat : Int)] w fun e w' => e = .returned (.bool true) ∧ Below w.heap.size w w' := by
  have hb : -9223372036854775808 ≤ at_ ∧ at_ ≤ 9223372036854775807 := by
    simp [Lit.wf, IntKind.min, IntKind.max, IntKind.signed, IntKind.bits] at hw
    omega
  obtain ⟨a, ha, hat⟩ := at_index at_ hb.1 hb.2
  have hla : a < l.length := by omega
  have hF : (fold l 32).length = 20 := fold_length l 32
  have hj : a % 20 < (fold l 32).length := by rw [hF]; exact Nat.mod_lt _ (by decide)
  obtain ⟨x, hx⟩ : ∃ x, x = l.set a (l.getD a 0 ^^^ by_) := ⟨_, rfl⟩
  have hxl : x.length = 32 := by rw [hx, List.length_set, hl]
  have hfx : fold x 32 = (fold l 32).set (a % 20) ((fold l 32).getD (a % 20) 0 ^^^ by_) := by
    rw [hx, fold_set l a by_ hla 32 (by omega), if_pos ha]
  have HX : Hid ((cellsB l).setIfInBounds a (.int .u8 (bits BinOp.xor IntKind.u8 (l[a].toNat : Int) (by_.toNat : Int))) = cellsB x) := (cells_xor l a by_ hla).trans (by rw [hx])
  have EX : Hid (((enc (fold x 32)) == enc (fold l 32)) = ((by_.toNat : Int) == 0)) := by
    show ((enc (fold x 32)) == enc (fold l 32)) = ((by_.toNat : Int) == 0)
    rw [Bool.eq_iff_iff, beq_iff_eq, beq_iff_eq]
    constructor
    · intro h
      have h1 := enc_inj _ _ h
      rw [hfx] at h1
      have h2 := (set_xor_iff _ _ _ hj).mp h1
      rw [h2]; rfl
    · intro h
      have h2 : by_ = 0 := by
        apply UInt8.toNat_inj.mp
        have : by_.toNat = 0 := by omega
        rw [this]; rfl
      rw [hfx, (set_xor_iff _ _ _ hj).mpr h2]
  have other : ∀ (i : Nat), i < 32 → i % 20 = a % 20 → fold (x.set i (x.getD i 0 ^^^ by_)) 32 = fold l 32 := by
    intro i hi hm
    rw [fold_set x i by_ (by omega) 32 (by omega), if_pos hi, hm, hfx]
    exact set_xor_twice _ _ _ hj
  by_cases h12 : a < 12
  · have hx2 : a + 20 < x.length := by omega
    exact folds_walk_lo l x (x.set (a + 20) (x.getD (a + 20) 0 ^^^ by_)) hl.symm hxl.symm (by rw [List.length_set, hxl]) at_ by_ w a ha hla hat (by simp; omega) h12 hx2 HX (cells_xor x (a + 20) by_ hx2) EX (congrArg enc (other (a + 20) (by omega) (by omega)))
  · by_cases h20 : 20 ≤ a
    · have hx2 : a - 20 < x.length := by omega
      exact folds_walk_hi l x (x.set (a - 20) (x.getD (a - 20) 0 ^^^ by_)) hl.symm hxl.symm (by rw [List.length_set, hxl]) at_ by_ w a ha hla hat (by simp; omega) (by simp; omega) h20 hx2 HX (cells_xor x (a - 20) by_ hx2) EX (congrArg enc (other (a - 20) (by omega) (by omega)))
    · have hx2 : a < x.length := by omega
      have hback : (cellsB x).setIfInBounds a (.int .u8 (l[a].toNat : Int)) = cellsB l := by
        rw [cellsB_set, hx, List.set_set, List.set_getElem_self]
      exact folds_walk_mid l x l hl.symm hxl.symm hl.symm at_ by_ w a ha hla hat (by simp; omega) (by simp; omega) hx2 HX hback EX rfl
end Go.Proofs.Ytmaknbcfnigbmaa
