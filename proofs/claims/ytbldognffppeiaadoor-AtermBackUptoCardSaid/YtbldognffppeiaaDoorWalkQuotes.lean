/- AtermQuotes, the law's walk: true for any two texts of at most 2^20 bytes, where the two tables hold what their initialisers lay. -/
import Derived.Test.YtbldognffppeiaaDoorWalkQuote
import Derived.Lib.LaidTab
namespace Go.Proofs.YtbldognffppeiaaDoor
open Go.RowKit Quo

theorem tabs_of {w : World} (h0 : Lib.TabIs Tryd.prog w "stillroom/aterm.plain" .u8 [34, 92, 10, 13, 9]) (h1 : Lib.TabIs Tryd.prog w "stillroom/aterm.signs" .u8 [34, 92, 110, 114, 116]) : Tabs w := by
  constructor
  · intro j hj
    have h := h0.cell (g := 0) (by kernel_rfl) j hj
    rw [h]
    match j, hj with
    | 0, _ => rfl
    | 1, _ => rfl
    | 2, _ => rfl
    | 3, _ => rfl
    | 4, _ => rfl
  · intro j hj
    have h := h1.cell (g := 1) (by kernel_rfl) j hj
    rw [h]
    match j, hj with
    | 0, _ => rfl
    | 1, _ => rfl
    | 2, _ => rfl
    | 3, _ => rfl
    | 4, _ => rfl
theorem quo_eq (a b : ByteArray) : (((⟨(quo a.data.toList).toArray⟩ : ByteArray).toList == (⟨(quo b.data.toList).toArray⟩ : ByteArray).toList)) = (a.toList == b.toList) := by
  rw [ByteArray.toList_mk, ByteArray.toList_mk, ByteArray.toList_eq, ByteArray.toList_eq, Bool.eq_iff_iff, beq_iff_eq, beq_iff_eq]
  exact ⟨quo_inj _ _, fun h => by rw [h]⟩
/-- The byte at a place of the quoted text. -/
theorem at_quo (A : List UInt8) (i : Nat) (h : i < (⟨(quo A).toArray⟩ : ByteArray).size) (c : UInt8) (hc : (quo A)[i]? = some c) : (⟨(quo A).toArray⟩ : ByteArray)[i]'h = c := by
  have hl : i < (quo A).length := h
  rw [List.getElem?_eq_getElem hl] at hc
  exact Option.some.inj hc
theorem quo_first (A : List UInt8) : (quo A)[0]? = some 34 := rfl
theorem quo_last (A : List UInt8) : (quo A)[(body A).length + 1]? = some 34 := by simp [quo]
theorem quo_in (A : List UInt8) (k j : Nat) (hk : k < A.length) (hj : j < (qc A[k]).length) : (quo A)[1 + (body (A.take k)).length + j]? = (qc A[k])[j]? := by
  have h1 : A = A.take k ++ A[k] :: A.drop (k + 1) := by rw [List.getElem_cons_drop, List.take_append_drop]
  have h2 : body A = body (A.take k) ++ (qc A[k] ++ body (A.drop (k + 1))) := by
    conv => lhs; rw [h1]
    rw [body_append, body_cons]
  unfold quo
  rw [show 1 + (body (A.take k)).length + j = ((body (A.take k)).length + j) + 1 by omega, List.getElem?_cons_succ, h2, List.append_assoc, List.append_assoc, List.getElem?_append_right (by omega), Nat.add_sub_cancel_left, List.getElem?_append_left hj]
theorem body_take_lt (A : List UInt8) (k : Nat) (hk : k < A.length) : (body (A.take (k + 1))).length = (body (A.take k)).length + (qc A[k]).length := by
  rw [List.take_succ_eq_append_getElem hk, body_append, List.length_append]
  congr 1
  exact congrArg List.length (List.append_nil _)
theorem body_take_le (A : List UInt8) (k : Nat) : (body (A.take k)).length ≤ (body A).length := by
  conv => rhs; rw [← List.take_append_drop k A, body_append, List.length_append]
  omega

set_option maxHeartbeats 1000000 in
theorem quotes_walk (a b : ByteArray) (w : World) (hT : Tabs w) (ha : a.size ≤ 1048576) (hb : b.size ≤ 1048576) :
    Calls Tryd.prog 3 #[.string a, .string b] w fun e w' => e = .returned (.bool true) ∧ Below w.heap.size w w' := by
  have HT := Lib.hid hT
  clear hT
  obtain ⟨A, hA⟩ : ∃ A, A = a.data.toList := ⟨_, rfl⟩
  have hAl : A.length = a.size := by rw [hA]; simp
  obtain ⟨m, hm⟩ : ∃ m, m = (body A).length := ⟨_, rfl⟩
  have hbody := body_length A
  have hm1 : a.size ≤ m := by omega
  have hm2 : m ≤ 2 * a.size := by omega
  have hq1 : Hid (Calls Tryd.prog 8 #[.string a] w fun e w' => e = .returned (.string ⟨(quo A).toArray⟩) ∧ Below w.heap.size w w') := by
    rw [hA]; exact quote_any a w HT.out (by omega)
  have hq2 : Hid (∀ W, Tabs W → Calls Tryd.prog 8 #[.string b] W fun e w' => e = .returned (.string ⟨(quo b.data.toList).toArray⟩) ∧ Below W.heap.size W w') :=
    fun W hW => quote_any b W hW (by omega)
  have hE := quo_eq a b
  rw [← hA] at hE
  have hsz : (⟨(quo A).toArray⟩ : ByteArray).size = m + 2 := by rw [hm, ← quo_length A]; exact List.size_toArray
  have HAT := Lib.hid (at_quo A)
  generalize (⟨(quo A).toArray⟩ : ByteArray) = xs at *
  generalize (⟨(quo b.data.toList).toArray⟩ : ByteArray) = ys at *
  have x0 : 0 < xs.size := by omega
  have xl : m + 1 < xs.size := by omega
  have h0 : ((xs[0]'x0).toNat : Int) = 34 := by rw [HAT.out 0 x0 34 (quo_first A)]; rfl
  have hl : ((xs[m + 1]'xl).toNat : Int) = 34 := by rw [HAT.out (m + 1) xl 34 (by rw [hm]; exact quo_last A)]; rfl
  have HM := Lib.hid hm
  have HA := Lib.hid hA
  have HAl := Lib.hid hAl
  clear hm hA hAl hbody
  have hd1 : decide (m < a.size) = false := by simp; omega
  go_enter Tryd.func3, Tryd.ntmps3
  go_wp2_with fail
  refine hq1.out.mono ?_
  rintro e w1 ⟨rfl, b1⟩
  go_wp2_with fail
  refine (hq2.out w1 (HT.out.below b1)).mono ?_
  rintro e w2 ⟨rfl, b2⟩
  have HB := Lib.hid (below_step' b1 b2)
  clear b1 b2
  go_wp2_with fail
  go_loop [7] (fun t7 => ∃ (k o : Nat), k ≤ A.length ∧ Hid (o = (body (A.take k)).length) ∧ t7 = .int .i64 ((o : Int) + 1)) (fun t7 => m + 2 - (intOf t7).toNat)
  case atStart => exact ⟨0, 0, Nat.zero_le _, rfl, rfl⟩
  case round =>
    obtain ⟨k, o, hk, HO, rfl⟩ := hrel
    by_cases hlt : k < A.length
    · have hle := body_take_le A (k + 1)
      have hst := body_take_lt A k hlt
      have hqi := quo_in A k
      rw [← HM.out] at hle
      rw [← HO.out] at hst hqi
      have hql := qc_length A[k]
      have ho : o + 1 ≤ m := by omega
      have xo : 1 + o < xs.size := by omega
      have xo1 : o + 1 < xs.size := by omega
      rcases qc_cases A[k] with ⟨hq, n1, n2, n3, _, _⟩ | ⟨s, hq, _⟩
      · have h1 : xs[o + 1]'xo1 = A[k] := HAT.out (o + 1) xo1 _ (by have := hqi 0 hlt (by rw [hq]; exact Nat.zero_lt_one); rw [hq] at this; rw [Nat.add_comm o 1]; exact this)
        have nb : ∀ c : UInt8, A[k] ≠ c → (((xs[o + 1]'xo1).toNat : Int) == (c.toNat : Int)) = false := by
          intro c hc
          rw [h1, beq_eq_false_iff_ne]
          intro h
          exact hc (UInt8.toNat_inj.mp (by omega))
        have t1 : (((xs[o + 1]'xo1).toNat : Int) == 92) = false := nb 92 n2
        have t2 : (((xs[o + 1]'xo1).toNat : Int) == 34) = false := nb 34 n1
        have t3 : (((xs[o + 1]'xo1).toNat : Int) == 10) = false := nb 10 n3
        have HO2 : Hid (o + 1 = (body (A.take (k + 1))).length) := by rw [hq] at hst; exact hst.symm
        clear h1 nb hqi hq hst hql hle n1 n2 n3
        go_wp2
        go_round
        case rel => exact ⟨k + 1, o + 1, by omega, HO2, by go_num⟩
        case measure => simp [intOf]; omega
      · have h1 : xs[o + 1]'xo1 = 92 := HAT.out (o + 1) xo1 _ (by have := hqi 0 hlt (by rw [hq]; exact Nat.zero_lt_two); rw [hq] at this; rw [Nat.add_comm o 1]; exact this)
        have t1 : (((xs[o + 1]'xo1).toNat : Int) == 92) = true := by rw [h1]; rfl
        have HO2 : Hid (o + 2 = (body (A.take (k + 1))).length) := by rw [hq] at hst; exact hst.symm
        clear h1 hqi hq hst hql hle
        go_wp2
        go_round
        case rel => exact ⟨k + 1, o + 2, by omega, HO2, by go_num⟩
        case measure => simp [intOf]; omega
    · have hkl : k = A.length := by omega
      have ho : o = m := by rw [HO.out, HM.out, hkl, List.take_length]
      have hd2 : decide ((m : Int) + 2 - (a.size : Int) ≤ (a.size : Int) + 2) = true := by simp; omega
      obtain rfl := ho
      clear hkl
      go_wp2
      go_ret
      exact ⟨rfl, HB.out⟩
end Go.Proofs.YtbldognffppeiaaDoor
