/- net.New, walked. -/
import Derived.Test.YtbldognffppeiaaNetNew
import Derived.Laws.AppendOwnNone
import Derived.StillTailTactics
import Derived.WalkSpells
import Derived.Outline
namespace Go.Proofs.Ytbldognffppeiaa
open Go.RowKit Go.Maps
set_option linter.unusedSimpArgs false
set_option linter.unusedVariables false
/-- An append of whatever, nil let in, to what is owned. -/
theorem append_any {P : Program} {w : World} {ops : Array Oper} {rest : List Oper} {o : Oper} {a : Act} {Q : Exit → Act → World → Prop} (hgd : o.guard = none) (s x : Operand) (t : TypeId)
    (ho : o.op = .call { callee := .builtin .append, args := #[s, x], argTypes := #[t, t] })
    (base : Nat) (e : TypeId) (i : TypeInfo) (z : Value) (bytes : Nat) (ht : P.underlying t = some (.slice e)) (hi : P.info? e = some i) (hz : i.zero = some z)
    (hsize : i.size = 1) (hby : i.bytes = bytes) (hzs : z.cells.size = 1)
    (v : Value) (n : Nat) (xs : List Value) (hs : a.eval s = v) (hown : w.ownsRow base e 1 v n xs)
    (A : Option Addr) (m c : Nat) (news : List Value) (hx : a.eval x = .slice A m c) (hl : news.length = m) (hnone : A = none → m = 0 ∧ c = 0) (hnews : ∀ ad, A = some ad → ∀ j u, news[j]? = some u → w.cell? (ad.add j) = some u) (h1 : ∀ u ∈ news, u.oneCell' = true)
    (h63 : n + m ≤ maxLen) (hbytes : (n + m) * bytes ≤ 140737488355328) (hbase : base ≤ w.heap.size)
    (h : ∀ v' w', w'.ownsRow base e 1 v' (n + m) (xs ++ news) → Below base w w' → wpList P ops Q rest (a.put o.dst v') w') : wpList P ops Q (o :: rest) a w := by
  cases A with
  | none =>
    obtain ⟨rfl, rfl⟩ := hnone rfl
    obtain rfl : news = [] := List.eq_nil_of_length_eq_zero hl
    refine wpList_append_own_none hgd s x t ho base e i 1 ht hi v n xs hs hown hx ?_
    exact h v w (by simpa using hown) (Below.refl _ _)
  | some ad =>
    refine wpList_append_own _ hgd s x t ho base e i z 1 bytes ht hi hz hsize hby hzs (by decide) v n xs hs hown ad m c news hx (by omega) (hnews ad rfl) h1 h63 hbytes hbase ?_
    intro v' w' h2 h3 _
    exact h v' w' h2 ((Below.refl _ w).grown h3 hbase (fun k hk => (hown.lt k hk).1))
theorem info3' : (Try.prog.info? 3).map (fun i => (i.zero, i.size, i.bytes)) = some (some (.int .i64 0), 1, 8) := by kernel_rfl
theorem owned_faults {w : World} {b : Nat} {v : Value} {zs : List Int} (h : w.ownsRow b 3 1 v zs.length (zs.map (Value.int .i64))) : ∃ B d, v = .slice B zs.length d ∧ FaultsAt w B zs ∧ ∀ ad, B = some ad → b ≤ ad.block ∧ ad.block < w.heap.size := by
  obtain ⟨hl, ⟨rfl, hn⟩ | ⟨g, cap, cur, rfl, hg, hb, hc, hm, hsz, ht⟩⟩ := h
  · obtain rfl : zs = [] := List.eq_nil_of_length_eq_zero hn
    exact ⟨none, 0, rfl, fun j z hj => by simp at hj, fun ad h => by cases h⟩
  · refine ⟨some ⟨g, 0, none⟩, cap, rfl, fun j z hj => ⟨_, rfl, ?_⟩, fun ad h => by cases h; exact ⟨hg, (Array.getElem?_eq_some_iff.1 hb).1⟩⟩
    have hlt := (List.getElem?_eq_some_iff.1 hj).1
    have e : (zs.map (Value.int .i64))[j]? = some (.int .i64 z) := by rw [List.getElem?_map, hj]; rfl
    rw [← ht, List.getElem?_take] at e
    split at e
    · rw [Addr.add_mid, Nat.zero_add, cell_of_row w g j cur 3 (0, 0) hb]
      simpa using e
    · cases e
set_option maxHeartbeats 2000000 in
theorem clone_net (A : Option Addr) (zs : List Int) (c : Nat) (hb : zs.length * 8 ≤ 140737488355328) (hA : A = none → zs.length = 0 ∧ c = 0) (w : World) (hr : FaultsAt w A zs) :
    Calls Try.prog 19 #[.slice A zs.length c] w fun e w' => (∃ B d, e = .returned (.slice B zs.length d) ∧ FaultsAt w' B zs ∧ ∀ ad, B = some ad → w.heap.size ≤ ad.block ∧ ad.block < w'.heap.size) ∧ Below w.heap.size w w' := by
  cases A with
  | none =>
    obtain ⟨h0, rfl⟩ := hA rfl
    obtain rfl : zs = [] := List.eq_nil_of_length_eq_zero h0
    refine (Try.slices_Clone_int_nil _ _ w).mono ?_
    rintro e w' ⟨rfl, rfl⟩
    exact ⟨⟨none, 0, rfl, fun j z hj => by simp at hj, fun ad h => by cases h⟩, Below.refl _ _⟩
  | some ad =>
    obtain ⟨i0, hi, hz0, hz1, hz2⟩ := info_parts info3'
    have H0 := Lib.hid hz0
    have H1 := Lib.hid hz1
    have H2 := Lib.hid hz2
    have HII := Lib.hid hi
    have HO0 : Hid ((w.alloc (.cells #[] 3)).ownsRow w.heap.size 3 1 (.slice (some ⟨w.heap.size, 0, none⟩) 0 0) 0 []) := ⟨rfl, Or.inr ⟨w.heap.size, 0, #[], rfl, Nat.le_refl _, heap_alloc_new w _, Nat.le_refl _, Nat.zero_le _, rfl, rfl⟩⟩
    have HB0 : Hid (Below w.heap.size w (w.alloc (.cells #[] 3))) := (Below.refl _ _).alloc (Nat.le_refl _) _
    have HNW : Hid (∀ ad', some ad = some ad' → ∀ j u, (zs.map (Value.int .i64))[j]? = some u → (w.alloc (.cells #[] 3)).cell? (ad'.add j) = some u) := fun ad' e j u hj => by
      cases e
      rw [List.getElem?_map] at hj
      obtain ⟨z, hz, rfl⟩ := Option.map_eq_some_iff.1 hj
      obtain ⟨ad2, e2, h2⟩ := hr j z hz
      cases e2
      exact (HB0.out.cell (World.block_lt_of_cell? w _ h2)).trans h2
    have hll : Hid ((zs.map (Value.int .i64)).length = zs.length) := List.length_map _
    have hne : Hid (some ad = none → zs.length = 0 ∧ c = 0) := fun h => by cases h
    have hone : Hid (∀ u ∈ zs.map (Value.int .i64), u.oneCell' = true) := fun u hu => by
      obtain ⟨z, _, rfl⟩ := List.mem_map.1 hu
      rfl
    have kn : ∀ W : World, (binOp .eql 26 (.slice (some ad) zs.length c) (.slice none 0 0)).run Try.prog W = .ok (.bool false) W := fun W => Lib.run_eql_slice_nil (P := Try.prog) W 26 3 (some ad) zs.length c 0 0 Try.underlying26
    clear hi hz0 hz1 hz2 hr hA
    go_enter Try.func19, Try.ntmps19
    go_wp2_with (at_builtin; refine append_any rfl (.tmp 5) (.tmp 6) 26 rfl w.heap.size 3 i0 (.int .i64 0) 8 Try.underlying26 HII.out H0.out H1.out H2.out rfl _ 0 [] rfl HO0.out (some ad) zs.length c (zs.map (Value.int .i64)) rfl hll.out hne.out HNW.out hone.out (by unfold maxLen; omega) (by omega) (by simp) ?_; intro v1 w1 hown1 hb1; have HO1 : Hid (w1.ownsRow w.heap.size 3 1 v1 zs.length (zs.map (Value.int .i64))) := (by have h := hown1; rw [Nat.zero_add, List.nil_append] at h; exact h); have HB1 := Lib.hid (HB0.out.trans hb1); clear hown1 hb1)
    go_ret
    obtain ⟨B, d, rfl, h1, h2⟩ := owned_faults HO1.out
    exact ⟨⟨B, d, rfl, h1, h2⟩, HB1.out⟩
end Go.Proofs.Ytbldognffppeiaa
