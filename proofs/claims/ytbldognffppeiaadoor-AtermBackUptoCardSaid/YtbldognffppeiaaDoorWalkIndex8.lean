/- slices.Index at bytes, walked: where the byte stands first, or -1. No condition. -/
import Derived.Test.YtbldognffppeiaaDoorSigWords
namespace Go.Proofs.YtbldognffppeiaaDoor
open Go.RowKit

def ix (l : List UInt8) (v : UInt8) : Int := if l.idxOf v < l.length then (l.idxOf v : Int) else -1
theorem idxOf_take (l : List UInt8) (v : UInt8) (k : Nat) (hk : k < l.length) (hno : ∀ j, j < k → l[j]? ≠ some v) (he : l[k] = v) : l.idxOf v = k := by
  induction l generalizing k with
  | nil => simp at hk
  | cons x l ih =>
    cases k with
    | zero => simp at he; simp [he]
    | succ k =>
      have h0 : x ≠ v := by
        have := hno 0 (by omega)
        simpa using this
      have := ih k (by simpa using hk) (fun j hj => by have := hno (j + 1) (by omega); simpa using this) (by simpa using he)
      rw [List.idxOf_cons]
      have hb : (x == v) = false := by simpa using h0
      simp [hb, this]
theorem ix_none (l : List UInt8) (v : UInt8) (hno : ∀ j, j < l.length → l[j]? ≠ some v) : ix l v = -1 := by
  unfold ix
  rw [if_neg]
  intro h
  exact hno _ h (by rw [List.getElem?_eq_getElem h, List.getElem_idxOf h])
theorem index8 (A : Option Addr) (l : List UInt8) (c : Nat) (v : UInt8) (w : World) (hr : ReadsB w A l) (hm : l.length ≤ 9223372036854775807) :
    Calls Tryd.prog 20 #[.slice A l.length c, .int .u8 (v.toNat : Int)] w fun e w' => e = .returned (.int .i64 (ix l v)) ∧ w' = w := by
  have HR := Lib.hid hr
  clear hr
  go_enter Tryd.func20, Tryd.ntmps20
  go_wp2
  go_loop [8] (fun i => ∃ k : Nat, k ≤ l.length ∧ i = .int .i64 k ∧ Hid (∀ j, j < k → l[j]? ≠ some v)) (fun i => l.length - (intOf i).toNat)
  case atStart => exact ⟨0, Nat.zero_le _, rfl, fun j hj => by omega⟩
  case round =>
    obtain ⟨k, hk, rfl, HN⟩ := hrel
    by_cases hlt : k < l.length
    · obtain ⟨ad, rfl, hcell⟩ := ReadsB.at_ HR.out k hlt
      by_cases he : l[k] = v
      · have h1 := idxOf_take l v k hlt HN.out he
        have HI : Hid (ix l v = (k : Int)) := by
          show ix l v = (k : Int)
          unfold ix
          rw [h1, if_pos hlt]
        have hb : ((v.toNat : Int) == (l[k].toNat : Int)) = true := by rw [he]; simp
        clear h1 he
        go_wp2
        go_ret
        exact ⟨by rw [HI.out]; rfl, rfl⟩
      · have hb : ((v.toNat : Int) == (l[k].toNat : Int)) = false := by
          rw [beq_eq_false_iff_ne]
          intro h
          exact he (UInt8.toNat_inj.mp (by omega))
        have HN2 : Hid (∀ j, j < k + 1 → l[j]? ≠ some v) := by
          intro j hj
          by_cases hjk : j < k
          · exact HN.out j hjk
          · obtain rfl : j = k := by omega
            rw [List.getElem?_eq_getElem hlt]
            intro h
            exact he (Option.some.inj h)
        clear he
        go_wp2
        go_round
        case rel => exact ⟨k + 1, by omega, by go_num, HN2⟩
        case measure => simp [intOf]; omega
    · obtain rfl : k = l.length := by omega
      have HI := Lib.hid (ix_none l v HN.out)
      go_wp2
      go_ret
      exact ⟨by rw [HI.out]; rfl, rfl⟩
end Go.Proofs.YtbldognffppeiaaDoor
