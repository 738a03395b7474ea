/- The reference's reader: take and next, walked. -/
import Derived.Test.YtbldognffppeiaaDoorAtDeriv
import Derived.Deep.QuietTactic
import Derived.BigQuiet
namespace Go.Proofs.YtbldognffppeiaaDoor
open Go.RowKit Quo
set_option linter.unusedSimpArgs false
set_option linter.unusedVariables false
/-- The reference's reader in memory: what is left of its text, or bad. -/
def RfSt (W : World) (g : Nat) (s : ByteArray) : Option (List UInt8) → Prop
  | some l => ∃ k : Nat, k ≤ s.size ∧ s.data.toList.drop k = l ∧ Blk W g 92 #[.string s, .int .i64 (k : Int), .bool false]
  | none => ∃ k : Nat, k ≤ s.size ∧ Blk W g 92 #[.string s, .int .i64 (k : Int), .bool true]
section
variable {W W' : World} {g : Nat} {s : ByteArray} {st : Option (List UInt8)}
theorem RfSt.kept {b : Nat} (h : RfSt W g s st) (hg : g < b) (hb : Below b W W') : RfSt W' g s st := by
  cases st with
  | none => obtain ⟨k, hk, h⟩ := h; exact ⟨k, hk, h.below hb hg⟩
  | some l => obtain ⟨k, hk, e, h⟩ := h; exact ⟨k, hk, e, h.below hb hg⟩
theorem RfSt.lt (h : RfSt W g s st) : g < W.heap.size := by
  cases st with
  | none => obtain ⟨k, hk, h⟩ := h; exact h.lt
  | some l => obtain ⟨k, hk, e, h⟩ := h; exact h.lt
theorem RfSt.far (h : RfSt W g s st) {p : Addr} (hp : g ≠ p.block) (u : Value) : RfSt (W.setCell p u) g s st := by
  cases st with
  | none => obtain ⟨k, hk, h⟩ := h; exact ⟨k, hk, h.far hp u⟩
  | some l => obtain ⟨k, hk, e, h⟩ := h; exact ⟨k, hk, e, h.far hp u⟩
theorem RfSt.rowFar (h : RfSt W g s st) {b : Nat} (hp : g ≠ b) (cs : Array Value) : RfSt (W.setRow b cs) g s st := by
  cases st with
  | none => obtain ⟨k, hk, h⟩ := h; exact ⟨k, hk, h.rowFar hp cs⟩
  | some l => obtain ⟨k, hk, e, h⟩ := h; exact ⟨k, hk, e, h.rowFar hp cs⟩
theorem RfSt.drewN (h : RfSt W g s st) (n : Nat) : RfSt (W.drewN n) g s st := h
theorem RfSt.lim (h : RfSt W g s st) (hs : s.size ≤ 1048576) : Lim st := fun l e => by
  subst e
  obtain ⟨k, hk, e, h⟩ := h
  rw [← e, List.length_drop]
  have : s.data.toList.length = s.size := by simp
  omega
end
theorem drop_prefix {s : ByteArray} {k : Nat} {l p : List UInt8} (hl : s.data.toList.drop k = l) (hk : k + p.length ≤ s.size) : s.extract k (k + p.length) = tx p ↔ p.isPrefixOf l = true := by
  have h1 : (s.extract k (k + p.length)).data.toList = l.take p.length := by
    rw [← hl]
    simp [ByteArray.data_extract]
  rw [List.isPrefixOf_iff_prefix]
  constructor
  · intro e
    have h2 : (tx p).data.toList = p := rfl
    rw [e, h2] at h1
    rw [h1]
    exact List.take_prefix _ _
  · rintro ⟨t, ht⟩
    apply ByteArray.ext
    apply Array.toList_inj.1
    rw [h1, ← ht]
    show List.take p.length (p ++ t) = p
    simp
theorem tx_get (s : ByteArray) : s.data.toList.length = s.size := by simp
set_option maxHeartbeats 4000000 in
set_option maxRecDepth 1000000 in
theorem rfTake_any (p : List UInt8) (g : Nat) (s : ByteArray) (st : Option (List UInt8)) (hs : s.size ≤ 1048576) (hp : p.length ≤ 64) (w : World) (h : RfSt w g s st) : Calls Tryd.prog 47 #[.pointer (some ⟨g, 0, none⟩), .string (tx p)] w fun e w' => e = .returned (.tuple #[]) ∧ RfSt w' g s (st.bind (eat p)) ∧ Kept g w w' := by
  obtain ⟨q, hq⟩ : ∃ q, Hid (tx p = q) := ⟨_, rfl⟩
  have hqs : Hid (q.size = p.length) := by rw [Hid, ← hq.out, tx_size]
  have hqm : q.size ≤ 64 := by rw [hqs.out]; exact hp
  cases st with
  | none =>
    obtain ⟨k, hk, hbk⟩ := h
    have H := Lib.hid hbk
    have p0 : w.cell? ⟨g, 0, none⟩ = some (.string s) := H.out.cell 0
    have p1 : w.cell? ⟨g, 1, none⟩ = some (.int .i64 (k : Int)) := H.out.cell 1
    have p2 : w.cell? ⟨g, 2, none⟩ = some (.bool true) := H.out.cell 2
    have f2 : w.frozen? ⟨g, 2, none⟩ = false := H.out.frozen 2
    clear hbk
    rw [hq.out]
    go_enter Tryd.func47, Tryd.ntmps47
    go_upto_region 0 with (fail)
    go_quiet (fail)
    go_wp2_with fail
    refine bodyPost_ret (results_none rfl _ _ _) rfl ?_
    refine ⟨rfl, ⟨k, hk, ?_⟩, ((Kept.refl g w).drewN nq).set 2 _⟩
    exact (show Blk (w.drewN nq) g 92 _ from H.out).set_ 2 _
  | some l =>
    obtain ⟨k, hk, hl, hbk⟩ := h
    have H := Lib.hid hbk
    have HL := Lib.hid hl
    have p0 : w.cell? ⟨g, 0, none⟩ = some (.string s) := H.out.cell 0
    have p1 : w.cell? ⟨g, 1, none⟩ = some (.int .i64 (k : Int)) := H.out.cell 1
    have p2 : w.cell? ⟨g, 2, none⟩ = some (.bool false) := H.out.cell 2
    have f1 : w.frozen? ⟨g, 1, none⟩ = false := H.out.frozen 1
    have f2 : w.frozen? ⟨g, 2, none⟩ = false := H.out.frozen 2
    clear hbk hl
    by_cases hshort : s.size < k + q.size
    · have d1 : (s.size : Int) - (k : Int) < (q.size : Int) := by omega
      have hnone : Hid (eat p l = none) := by
        unfold eat
        rw [Hid, if_neg]
        intro hpf
        obtain ⟨t, ht⟩ := List.isPrefixOf_iff_prefix.1 hpf
        have h1 := congrArg List.length HL.out
        rw [List.length_drop, tx_get, ← ht, List.length_append] at h1
        have := hqs.out
        omega
      rw [hq.out]
      clear hshort
      go_enter Tryd.func47, Tryd.ntmps47
      go_upto_region 0 with (fail)
      go_quiet (fail)
      go_wp2_with fail
      refine bodyPost_ret (results_none rfl _ _ _) rfl ?_
      refine ⟨rfl, ?_, ((Kept.refl g w).drewN nq).set 2 _⟩
      show RfSt _ g s (eat p l)
      rw [hnone.out]
      exact ⟨k, hk, (show Blk (w.drewN nq) g 92 _ from H.out).set_ 2 _⟩
    · obtain ⟨n, hn⟩ : ∃ n : Nat, (s.size : Int) - (k : Int) = (n : Int) := ⟨s.size - k, by omega⟩
      have hn2 : n ≤ 1048576 := by omega
      have d1 : ¬ (n : Int) < (q.size : Int) := by omega
      have hwr : IntKind.i64.wrap (n : Int) = (n : Int) := by rw [IntKind.wrap_i64]; omega
      obtain ⟨m, hm⟩ : ∃ m : Nat, (k : Int) + (q.size : Int) = (m : Int) := ⟨k + q.size, by omega⟩
      have hwm : IntKind.i64.wrap (m : Int) = (m : Int) := by rw [IntKind.wrap_i64]; omega
      have hms : m ≤ s.size := by omega
      have hkm : k ≤ m := by omega
      have d2 : ¬ (s.size : Int) < (m : Int) := by omega
      have d3 : ¬ (m : Int) < (k : Int) := by omega
      obtain ⟨x, hx⟩ : ∃ x, s.extract k m = x := ⟨_, rfl⟩
      have hxp : Hid (x = q ↔ p.isPrefixOf l = true) := by
        have e : m = k + p.length := by have := hqs.out; omega
        rw [Hid, ← hx, ← hq.out, e]
        exact drop_prefix HL.out (by have := hqs.out; omega)
      rw [hq.out]
      by_cases hpf : p.isPrefixOf l = true
      · have hxq : x = q := hxp.out.2 hpf
        have hsome : Hid (eat p l = some (l.drop p.length)) := if_pos hpf
        subst hxq
        clear hpf
        go_enter Tryd.func47, Tryd.ntmps47
        go_upto_region 0 with (fail)
        go_quiet (fail)
        go_wp2_with fail
        have HB := (show Blk (w.drewN nq) g 92 _ from H.out).set_ 1 (.int .i64 (m : Int))
        have hdm : s.data.toList.drop m = l.drop p.length := by
          have e : m = k + p.length := by have := hqs.out; omega
          rw [← HL.out, List.drop_drop, e]
        first
          | refine bodyPost_end (results_none rfl _ _ _) rfl ?_
          | refine bodyPost_ret (results_none rfl _ _ _) rfl ?_
        refine ⟨rfl, ?_, ((Kept.refl g w).drewN nq).set 1 _⟩
        show RfSt _ g s (eat p l)
        rw [hsome.out]
        exact ⟨m, hms, hdm, HB⟩
      · have hxq : ¬ x = q := fun e => hpf (hxp.out.1 e)
        have hnone : Hid (eat p l = none) := if_neg hpf
        have hbq : (x.toList == q.toList) = false := by
          rw [ByteArray.toList_eq, ByteArray.toList_eq]
          simp only [beq_eq_false_iff_ne, ne_eq]
          exact fun e => hxq (by apply ByteArray.ext; exact Array.toList_inj.1 e)
        clear hpf
        go_enter Tryd.func47, Tryd.ntmps47
        go_upto_region 0 with (fail)
        go_quiet (fail)
        go_wp2_with fail
        refine bodyPost_ret (results_none rfl _ _ _) rfl ?_
        refine ⟨rfl, ?_, ((Kept.refl g w).drewN nq).set 2 _⟩
        show RfSt _ g s (eat p l)
        rw [hnone.out]
        exact ⟨k, hk, (show Blk (w.drewN nq) g 92 _ from H.out).set_ 2 _⟩
def nextB (c : UInt8) : Option (List UInt8) → Bool
  | some (x :: _) => x == c
  | _ => false
set_option maxHeartbeats 4000000 in
set_option maxRecDepth 1000000 in
theorem rfNext_any (c : UInt8) (g : Nat) (s : ByteArray) (st : Option (List UInt8)) (hs : s.size ≤ 1048576) (w : World) (h : RfSt w g s st) : Calls Tryd.prog 70 #[.pointer (some ⟨g, 0, none⟩), .int .u8 (c.toNat : Int)] w fun e w' => e = .returned (.bool (nextB c st)) ∧ ∃ m, w' = w.drewN m := by
  cases st with
  | none =>
    obtain ⟨k, hk, hbk⟩ := h
    have H := Lib.hid hbk
    have p2 : w.cell? ⟨g, 2, none⟩ = some (.bool true) := H.out.cell 2
    clear hbk
    go_enter Tryd.func70, Tryd.ntmps70
    go_upto_region 1 with (fail)
    go_quiet (fail)
    go_wp2_with fail
    go_ret
    exact ⟨rfl, nq, rfl⟩
  | some l =>
    obtain ⟨k, hk, hl, hbk⟩ := h
    have H := Lib.hid hbk
    have HL := Lib.hid hl
    have p0 : w.cell? ⟨g, 0, none⟩ = some (.string s) := H.out.cell 0
    have p1 : w.cell? ⟨g, 1, none⟩ = some (.int .i64 (k : Int)) := H.out.cell 1
    have p2 : w.cell? ⟨g, 2, none⟩ = some (.bool false) := H.out.cell 2
    clear hbk hl
    cases l with
    | nil =>
      have hkk : k = s.size := by
        have h1 := congrArg List.length HL.out
        rw [List.length_drop, tx_get] at h1
        simp at h1
        omega
      have d1 : ¬ (k : Int) < (s.size : Int) := by omega
      clear hkk
      go_enter Tryd.func70, Tryd.ntmps70
      go_upto_region 1 with (fail)
      go_quiet (fail)
      go_wp2_with fail
      go_ret
      exact ⟨rfl, nq, rfl⟩
    | cons x t =>
      have hkk : k < s.size := by
        have h1 := congrArg List.length HL.out
        rw [List.length_drop, tx_get] at h1
        simp at h1
        omega
      have d1 : (k : Int) < (s.size : Int) := by omega
      have d2 : (0 : Int) ≤ (k : Int) := by omega
      have hx : s[k] = x := by
        have h1 : s.data.toList[k]? = some x := by
          have h2 : (s.data.toList.drop k)[0]? = some x := by rw [HL.out]; rfl
          rw [List.getElem?_drop] at h2
          simpa using h2
        have h3 := (List.getElem?_eq_some_iff.1 h1).2
        show s.data[k] = x
        rw [← Array.getElem_toList]
        exact h3
      by_cases hxc : x = c
      · subst hxc
        have hb : Hid (nextB x (some (x :: t)) = true) := by simp [Hid, nextB]
        rw [hb.out]
        go_enter Tryd.func70, Tryd.ntmps70
        go_upto_region 1 with (fail)
        go_quiet (fail)
        go_wp2_with fail
        go_ret
        exact ⟨rfl, nq, rfl⟩
      · have hb : Hid (nextB c (some (x :: t)) = false) := by simp [Hid, nextB, hxc]
        have d3 : ((x.toNat : Int) == (c.toNat : Int)) = false := by
          simp only [beq_eq_false_iff_ne, ne_eq]
          exact fun e => hxc (UInt8.toNat_inj.1 (by omega))
        rw [hb.out]
        go_enter Tryd.func70, Tryd.ntmps70
        go_upto_region 1 with (fail)
        go_quiet (fail)
        go_wp2_with fail
        go_ret
        exact ⟨rfl, nq, rfl⟩
end Go.Proofs.YtbldognffppeiaaDoor
