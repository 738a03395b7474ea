/- Names: what the reference's Name tells. -/
import Derived.Test.YtmaknbcfnigbmaaDoorPPathSplitsx2
namespace Go.Proofs.YtmaknbcfnigbmaaDoor.Names
open Go.RowKit Go.Proofs.YtmaknbcfnigbmaaDoor.PPathSplits Go.Proofs.YtmaknbcfnigbmaaDoorW.PrintWords Go.Proofs.YtmaknbcfnigbmaaDoorW.PrintLast Go.Proofs.YtmaknbcfnigbmaaDoorW.PrintMore

def within (c lo hi : UInt8) : Bool := decide (lo.toNat ≤ c.toNat) && decide (c.toNat ≤ hi.toNat)
/-- May a byte stand in a name? -/
def nsign (c : UInt8) : Bool := within c 97 122 || within c 65 90 || within c 48 57 || within c 43 43 || within c 45 45 || within c 46 46 || within c 95 95
/-- May a name be? -/
def isName (l : List UInt8) : Bool := decide (1 ≤ l.length) && (decide (l.length ≤ 27) && (l.getD 0 0 != 46 && l.all nsign))
theorem sign_fin : ∀ c : Fin 256, stillroomref09_sign.f ((c.val : Nat) : Int) = some (nsign (UInt8.ofNat c.val)) := by decide +kernel
theorem sign_is (c : UInt8) : stillroomref09_sign.f (c.toNat : Int) = some (nsign c) := by
  have h := sign_fin ⟨c.toNat, c.toNat_lt⟩
  rw [UInt8.ofNat_toNat] at h
  exact h
theorem bt_at (s : ByteArray) (i : Nat) (h : i < s.data.toList.length) : bt s (i : Int) = (s.data.toList[i].toNat : Int) := by
  have h2 : ((i : Int)).toNat < s.size := by rw [Int.toNat_natCast]; simpa using h
  unfold bt
  rw [dif_pos h2]
  simp [ByteArray.getElem_eq_getElem_data]
theorem name_l0 (s : ByteArray) (hs : s.size ≤ 9223372036854775000) : ∀ (d i k : Nat), i + d = s.size → d + 1 ≤ k → (s.data.toList.take i).all nsign = true → stillroomref09_Name.l0 k s (i : Int) = some (isName s.data.toList) := by
  have hlen : s.data.toList.length = s.size := by simp
  intro d
  induction d with
  | zero =>
    intro i k hi hk hall
    obtain ⟨k, rfl⟩ : ∃ m, k = m + 1 := ⟨k - 1, by omega⟩
    simp only [stillroomref09_Name.l0]
    rw [if_neg (by omega)]
    rw [List.take_of_length_le (by omega)] at hall
    unfold isName
    rw [hall, hlen]
    by_cases h1 : 1 ≤ s.size
    · rw [if_pos (by omega)]
      by_cases h27 : s.size ≤ 27
      · rw [if_pos (by omega), if_pos (by omega)]
        have hb := bt_at s 0 (by omega)
        rw [show ((0 : Nat) : Int) = 0 from rfl] at hb
        rw [hb]
        have hg : s.data.toList.getD 0 0 = s.data.toList[0]'(by omega) := by
          rw [List.getD_eq_getElem?_getD, List.getElem?_eq_getElem (by omega), Option.getD_some]
        rw [hg]
        simp only [h1, h27, decide_true, Bool.true_and, Bool.and_true]
        congr 1
        rw [Bool.eq_iff_iff, bne_iff_ne, bne_iff_ne]
        constructor
        · intro h e; apply h; rw [e]; rfl
        · intro h e; apply h; exact UInt8.toNat_inj.1 (by have h46 : (46 : UInt8).toNat = 46 := rfl; omega)
      · rw [if_neg (by omega)]
        simp [h27]
    · rw [if_neg (by omega)]
      simp [h1]
  | succ d ih =>
    intro i k hi hk hall
    obtain ⟨k, rfl⟩ : ∃ m, k = m + 1 := ⟨k - 1, by omega⟩
    have hil : i < s.data.toList.length := by omega
    simp only [stillroomref09_Name.l0]
    have e : wrap64 ((i : Int) + 1) = ((i + 1 : Nat) : Int) := by unfold wrap64; omega
    rw [if_pos (by omega), if_pos (by omega), bt_at s i hil, sign_is, Option.bind_some]
    by_cases hn : nsign s.data.toList[i] = true
    · rw [if_pos hn, e]
      refine ih (i + 1) k (by omega) (by omega) ?_
      rw [List.take_succ_eq_append_getElem hil, List.all_append, hall, Bool.true_and]
      simp only [List.all_cons, List.all_nil, Bool.and_true]
      exact hn
    · rw [if_neg hn]
      have : s.data.toList.all nsign = false := by
        rw [List.all_eq_false]
        exact ⟨_, List.getElem_mem hil, hn⟩
      unfold isName
      rw [this]
      simp
theorem name_f (s : ByteArray) (hs : s.size ≤ 9223372036854775000) (k : Nat) (hk : s.size + 1 ≤ k) : stillroomref09_Name.f k s = some (isName s.data.toList) := by
  unfold stillroomref09_Name.f
  exact name_l0 s hs s.size 0 k (by omega) hk (by simp)
end Go.Proofs.YtmaknbcfnigbmaaDoor.Names
