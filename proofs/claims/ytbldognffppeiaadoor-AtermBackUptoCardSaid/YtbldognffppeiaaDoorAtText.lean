/- The text of a derivation, in plain Lean; the reference's comma and list, walked. -/
import Derived.Test.YtbldognffppeiaaDoorAtRefQuote
import Derived.Test.YtbldognffppeiaaDoorAtOwn
import Derived.Lib.Join
import Derived.Lib.QuietBelow
namespace Go.Proofs.YtbldognffppeiaaDoor
open Go.RowKit Quo
set_option linter.unusedSimpArgs false
set_option linter.unusedVariables false
def tx (l : List UInt8) : ByteArray := ⟨l.toArray⟩
theorem tx_app (a b : List UInt8) : tx a ++ tx b = tx (a ++ b) := str_app a b
theorem tx_size (a : List UInt8) : (tx a).size = a.length := by simp [tx, ByteArray.size]
def quoS (s : ByteArray) : List UInt8 := quo s.data.toList
def joinC (l : List (List UInt8)) : List UInt8 := Lib.join l [44]
def commaL (i : Nat) : List UInt8 := if i = 0 then [] else [44]
def listD (l : List ByteArray) : List UInt8 := [91] ++ joinC (l.map quoS) ++ [93]
def outD (x : ByteArray × ByteArray × ByteArray) : List UInt8 := [40] ++ quoS x.1 ++ [44] ++ quoS x.2.1 ++ [44] ++ quoS x.2.2 ++ [41]
def inD (x : ByteArray × List ByteArray) : List UInt8 := [40] ++ quoS x.1 ++ [44] ++ listD x.2 ++ [41]
def envD (x : ByteArray × ByteArray) : List UInt8 := [40] ++ quoS x.1 ++ [44] ++ quoS x.2 ++ [41]
def textD (d : Drv) : List UInt8 := [68, 101, 114, 105, 118, 101, 40, 91] ++ joinC (d.outs.map outD) ++ [93, 44, 91] ++ joinC (d.ins.map inD) ++ [93, 44] ++ listD d.srcs ++ [44] ++ quoS d.sys ++ [44] ++ quoS d.bld ++ [44] ++ listD d.args ++ [44, 91] ++ joinC (d.env.map envD) ++ [93, 41]
theorem joinTail_snoc (sep : List UInt8) (r : List (List UInt8)) (y : List UInt8) : Lib.joinTail sep (r ++ [y]) = Lib.joinTail sep r ++ (sep ++ y) := by simp [Lib.joinTail]
theorem joinC_step (l : List (List UInt8)) (k : Nat) (x : List UInt8) (h : l[k]? = some x) : joinC (l.take (k + 1)) = joinC (l.take k) ++ commaL k ++ x := by
  have hk := (List.getElem?_eq_some_iff.1 h).1
  rw [List.take_add_one, h]
  unfold joinC commaL
  by_cases h0 : k = 0
  · subst h0
    simp [Lib.join_one, Lib.join_nil]
  · rw [if_neg h0]
    obtain ⟨y, r, e⟩ : ∃ y r, l.take k = y :: r := by
      cases hl : l.take k with
      | nil => have := congrArg List.length hl; rw [List.length_take, List.length_nil] at this; omega
      | cons y r => exact ⟨y, r, rfl⟩
    rw [e]
    show Lib.join (y :: (r ++ [x])) [44] = _
    rw [Lib.join_cons, Lib.join_cons, joinTail_snoc]
    simp
theorem quoS_length (s : ByteArray) (h : s.size ≤ 1048576) : (quoS s).length ≤ 2097154 := by
  unfold quoS
  rw [quo_length]
  have := (body_length s.data.toList).2
  have h2 : s.data.toList.length = s.size := by simp
  omega
theorem joinC_length (l : List (List UInt8)) (n B : Nat) (hn : l.length ≤ n) (h : ∀ x ∈ l, x.length ≤ B) : (joinC l).length ≤ n * (B + 1) := by
  have h2 : ∀ k, k ≤ l.length → (joinC (l.take k)).length ≤ k * (B + 1) := by
    intro k
    induction k with
    | zero => intro _; simp [joinC, Lib.join_nil]
    | succ k ih =>
      intro hk
      have hx : l[k]? = some l[k] := List.getElem?_eq_getElem hk
      rw [joinC_step l k _ hx]
      have h3 := ih (by omega)
      have h4 := h l[k] (List.getElem_mem hk)
      have h5 : (commaL k).length ≤ 1 := by unfold commaL; split <;> simp
      simp only [List.length_append]
      rw [Nat.succ_mul]
      omega
  have h3 := h2 l.length (Nat.le_refl _)
  rw [List.take_length] at h3
  exact Nat.le_trans h3 (Nat.mul_le_mul_right _ hn)
theorem listD_length (l : List ByteArray) (n : Nat) (hn : l.length ≤ n) (h : ∀ s ∈ l, s.size ≤ 1048576) : (listD l).length ≤ n * 2097155 + 2 := by
  unfold listD
  have h1 := joinC_length (l.map quoS) n 2097154 (by rw [List.length_map]; exact hn) (fun x hx => by
    obtain ⟨s, hs, rfl⟩ := List.mem_map.1 hx
    exact quoS_length s (h s hs))
  simp only [List.length_append, List.length_cons, List.length_nil]
  omega
set_option maxHeartbeats 1000000 in
theorem comma_any (i : Nat) (w : World) : Calls Tryd.prog 54 #[.int .i64 i] w fun e w' => e = .returned (.string (tx (commaL i))) ∧ Below w.heap.size w w' := by
  by_cases h : i = 0
  · subst h
    go_enter Tryd.func54, Tryd.ntmps54
    go_wp2_with fail
    go_ret
    exact ⟨rfl, Below.refl _ _⟩
  · have c1 : (0 : Int) < (i : Int) := by omega
    have e : commaL i = [44] := if_neg h
    rw [e]
    go_enter Tryd.func54, Tryd.ntmps54
    go_wp2_with fail
    go_ret
    exact ⟨rfl, Below.refl _ _⟩
theorem take_at {l : List ByteArray} {k : Nat} {s : ByteArray} (h : l[k]? = some s) : (l.map quoS)[k]? = some (quoS s) := by rw [List.getElem?_map, h]; rfl
set_option maxHeartbeats 4000000 in
set_option maxRecDepth 100000 in
theorem refList_any (A : Option Addr) (l : List ByteArray) (c : Nat) (hl : l.length ≤ 1048576) (hsz : ∀ s ∈ l, s.size ≤ 1048576) (w : World) (h : StrsAt w A l) : Calls Tryd.prog 55 #[.slice A l.length c] w fun e w' => e = .returned (.string (tx (listD l))) ∧ Below w.heap.size w w' := by
  have H := Lib.hid h
  have HZ := Lib.hid hsz
  have HB0 := Lib.hid (Below.refl w.heap.size w)
  obtain ⟨n, hn⟩ : ∃ n, Hid (n = l.length) := ⟨_, rfl⟩
  rw [← hn.out] at hl ⊢
  clear h hsz
  go_enter Tryd.func55, Tryd.ntmps55
  go_wp2_with fail
  go_loopw [3, 4] (fun t3 t4 wr => ∃ (k : Nat) (T : ByteArray), t3 = .string T ∧ t4 = .int .i64 k ∧ k ≤ n ∧ T.size ≤ 1 + k * 2097155 ∧ Hid (T = tx ([91] ++ joinC ((l.map quoS).take k))) ∧ Hid (Below w.heap.size w wr)) (fun _ t4 _ => n - (intOf t4).toNat)
  case atStart => exact ⟨0, ⟨#[91]⟩, rfl, rfl, Nat.zero_le _, by decide, rfl, HB0⟩
  case round =>
    clear HB0
    obtain ⟨k, T, rfl, rfl, hk, hT, hE, HB⟩ := hrel
    by_cases hlt : k < n
    · obtain ⟨s, hs⟩ : ∃ s, Hid (l[k]? = some s) := ⟨_, List.getElem?_eq_getElem (by rw [← hn.out]; exact hlt)⟩
      obtain ⟨g, o, rfl, q1⟩ := H.out k s hs.out
      have r1 := (HB.out.cell (World.block_lt_of_cell? w _ q1)).trans q1
      have hs1 : s.size ≤ 1048576 := HZ.out s (List.mem_of_getElem? hs.out)
      have HC := Lib.hid (fun W => refQuote_any s W (by omega))
      obtain ⟨q, hq⟩ : ∃ q, Hid (q = tx (quoS s)) := ⟨_, rfl⟩
      have hq2 : Hid ((⟨(quo s.data.toList).toArray⟩ : ByteArray) = q) := hq.out.symm
      have hqs : q.size ≤ 2097154 := by rw [hq.out, tx_size]; exact quoS_length s hs1
      rw [hq2.out] at HC
      have d1 : (k : Int) < (n : Int) := by omega
      have d2 : (0 : Int) ≤ (k : Int) := by omega
      have hstep := Lib.hid (joinC_step (l.map quoS) k (quoS s) (take_at hs.out))
      have e1 : ¬ 9223372036854775807 < T.size + 1 := by omega
      have e2 : ¬ 9223372036854775807 < T.size + q.size := by omega
      have e3 : ¬ 9223372036854775807 < T.size + 1 + q.size := by omega
      clear q1
      by_cases h0 : k = 0
      · subst h0
        have r0 : wr.cell? ⟨g, o, none⟩ = some (.string s) := r1
        go_wp2_with (first | (go_at_call 18; refine (HC.out _).mono ?_; rintro e w1 ⟨rfl, hb⟩; have HB1 := Lib.hid (below_step' HB.out hb); clear hb) | fail)
        refine ⟨⟨1, T ++ q, rfl, by first | rfl | simp, by omega, by rw [ByteArray.size_append]; omega, ?_, HB1⟩, by simp [intOf]; omega⟩
        rw [Hid, hE.out, hq.out, tx_app, hstep.out]
        congr 1
      · have d3 : (0 : Int) < (k : Int) := by omega
        go_wp2_with (first | (go_at_call 18; refine (HC.out _).mono ?_; rintro e w1 ⟨rfl, hb⟩; have HB1 := Lib.hid (below_step' HB.out hb); clear hb) | fail)
        refine ⟨⟨k + 1, T ++ ⟨#[44]⟩ ++ q, rfl, by first | rfl | simp, by omega, by rw [ByteArray.size_append, ByteArray.size_append]; show _ + 1 + _ ≤ _; omega, ?_, HB1⟩, by simp [intOf]; omega⟩
        rw [Hid, hE.out, hq.out, show (⟨#[44]⟩ : ByteArray) = tx [44] from rfl, tx_app, tx_app, hstep.out]
        congr 1
        simp [commaL, h0]
    · obtain rfl : n = k := by omega
      have d1 : ¬ (n : Int) < (n : Int) := by omega
      have e1 : ¬ 9223372036854775807 < T.size + 1 := by omega
      go_wp2_with fail
      go_ret
      refine ⟨congrArg (fun x => Ending.returned (.string x)) ?_, HB.out⟩
      have h := hE.out
      rw [List.take_of_length_le (by rw [List.length_map, ← hn.out]; exact Nat.le_refl _)] at h
      rw [h, show (⟨#[93]⟩ : ByteArray) = tx [93] from rfl, tx_app]
      rfl
end Go.Proofs.YtbldognffppeiaaDoor
