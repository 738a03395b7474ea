/- stillroomref08.Quote, walked. Printed by wip/gen/gen_quo.py. -/
import Derived.Test.YtbldognffppeiaaDoorAtOwnInv
import Derived.Test.YtbldognffppeiaaDoorWalkQuote
import Derived.Laws.IdiomStrings
namespace Go.Proofs.YtbldognffppeiaaDoor
open Go.RowKit Quo
set_option linter.unusedSimpArgs false
set_option linter.unusedVariables false
theorem quo_one {w : World} (l : List UInt8) : ∀ u ∈ Lib.byteCells l, u.oneCell' = true := fun u hu => by
  unfold Lib.byteCells at hu
  obtain ⟨b, _, rfl⟩ := List.mem_map.1 hu
  rfl
theorem quo_step {w : World} {b : Nat} {v : Value} {L x L' : List UInt8} {n m : Nat} (hn : n = L.length) (hm : m = x.length) (hL : L' = L ++ x) (h : w.ownsRow b 5 1 v (n + m) (Lib.byteCells L ++ Lib.byteCells x)) : ∃ A c, v = .slice A (n + m) c ∧ Hid (w.ownsRow b 5 1 (.slice A (n + m) c) (n + m) (Lib.byteCells L')) ∧ Hid (n + m = L'.length) := by
  rw [← Lib.byteCells_append, ← hL] at h
  obtain ⟨A, c, rfl, _, _, _, h2⟩ := row_form h
  exact ⟨A, c, rfl, h2, by rw [Hid, hL, List.length_append, hn, hm]⟩
theorem quo_news {w : World} {g : Nat} {cs : Array Value} {l : List Value} (h : w.heap[g]? = some (.cells cs 5 (0, 0))) (hl : l = cs.toList) : ∀ ad, some (⟨g, 0, none⟩ : Addr) = some ad → ∀ j u, l[j]? = some u → w.cell? (ad.add j) = some u := fun ad e => by
  cases e
  subst hl
  exact World.news_of_block h
set_option maxRecDepth 100000 in
theorem quo_conv {w : World} {b : Nat} {A : Option Addr} {n c : Nat} {l : List UInt8} (hn : n = l.length) (h : w.ownsRow b 5 1 (.slice A n c) n (Lib.byteCells l)) : (convert 41 9 (.slice A n c)).run Tryd.prog w = .ok (.string ⟨l.toArray⟩) w := by
  subst hn
  rcases Nat.eq_zero_or_pos l.length with h0 | h0
  · have hl := List.eq_nil_of_length_eq_zero h0
    subst hl
    obtain ⟨A', c', e, q1, q2, q3, _⟩ := row_form h
    injection e with e1 e2 e3
    subst e1 e3
    cases A with
    | none => exact run_convert_bytes_nil w 41 5 Tryd.underlying41 Tryd.underlying5 0 c 9 Tryd.underlying9
    | some a => exact run_convert_bytes_back w 41 9 5 a c [] Tryd.underlying41 Tryd.underlying5 Tryd.underlying9 (fun j hj => by simp at hj)
  · obtain ⟨g, cap, e, _, _⟩ := h.form h0
    injection e with e1 e2 e3
    subst e1 e3
    refine run_convert_bytes_back w 41 9 5 ⟨g, 0, none⟩ c l Tryd.underlying41 Tryd.underlying5 Tryd.underlying9 (fun j hj => ?_)
    have h1 := h.cellAt j (by omega)
    have h2 : (Lib.byteCells l)[j]? = some (.int .u8 (l[j].toNat : Int)) := by simp [Lib.byteCells, hj]
    have e : (⟨g, 0, none⟩ : Addr).add j = ⟨g, j, none⟩ := by unfold Addr.add; split <;> simp_all
    rw [e]
    exact h1.trans h2
theorem qcB (c : UInt8) : (c = 34 ∧ qc c = [92, 34]) ∨ (c = 92 ∧ qc c = [92, 92]) ∨ (c = 10 ∧ qc c = [92, 110]) ∨ (c = 13 ∧ qc c = [92, 114]) ∨ (c = 9 ∧ qc c = [92, 116]) ∨ (c ≠ 34 ∧ c ≠ 92 ∧ c ≠ 10 ∧ c ≠ 13 ∧ c ≠ 9 ∧ qc c = [c]) := by
  by_cases h1 : c = 34
  · subst h1; exact .inl ⟨rfl, rfl⟩
  by_cases h2 : c = 92
  · subst h2; exact .inr (.inl ⟨rfl, rfl⟩)
  by_cases h3 : c = 10
  · subst h3; exact .inr (.inr (.inl ⟨rfl, rfl⟩))
  by_cases h4 : c = 13
  · subst h4; exact .inr (.inr (.inr (.inl ⟨rfl, rfl⟩)))
  by_cases h5 : c = 9
  · subst h5; exact .inr (.inr (.inr (.inr (.inl ⟨rfl, rfl⟩))))
  refine .inr (.inr (.inr (.inr (.inr ⟨h1, h2, h3, h4, h5, ?_⟩))))
  rcases qc_cases c with ⟨h, _⟩ | ⟨s, _, h⟩
  · exact h
  · rcases h with ⟨_, h⟩ | ⟨_, h⟩ | ⟨_, h⟩ | ⟨_, h⟩ | ⟨_, h⟩
    · exact absurd h h1
    · exact absurd h h2
    · exact absurd h h3
    · exact absurd h h4
    · exact absurd h h5
theorem byte_eqF {c d : UInt8} (h : c ≠ d) : ((c.toNat : Int) == (d.toNat : Int)) = false := by
  simp only [beq_eq_false_iff_ne, ne_eq]
  intro e
  exact h (UInt8.toNat_inj.1 (by omega))
set_option maxHeartbeats 4000000 in
set_option maxRecDepth 100000 in
theorem refQuote_any (s : ByteArray) (w : World) (hs : s.size ≤ 70368744177000) : Calls Tryd.prog 18 #[.string s] w fun e w' => e = .returned (.string ⟨(quo s.data.toList).toArray⟩) ∧ Below w.heap.size w w' := by
  obtain ⟨i5, hi0, hz0, hz1, hz2⟩ := info_parts Build.info8
  have Z5 := Lib.hid hz0
  have S5 := Lib.hid hz1
  have Y5 := Lib.hid hz2
  have I5 := Lib.hid hi0
  clear hi0 hz0 hz1 hz2
  go_enter Tryd.func18, Tryd.ntmps18
  have HO : Hid ((w.alloc (.cells #[.int .u8 34] 5)).ownsRow w.heap.size 5 1 (.slice (some ⟨w.heap.size, 0, none⟩) 1 1) 1 (Lib.byteCells [34])) := ⟨rfl, Or.inr ⟨w.heap.size, 1, #[.int .u8 34], rfl, Nat.le_refl _, heap_alloc_new w _, Nat.le_refl _, by decide, rfl, rfl⟩⟩
  have HB : Hid (Below w.heap.size w (w.alloc (.cells #[.int .u8 34] 5))) := (Below.refl _ w).alloc (Nat.le_refl _) _
  go_upto_region 2 with (fail)
  generalize w.alloc (.cells #[.int .u8 34] 5) = wa at *
  obtain ⟨gw, hgw⟩ : ∃ gw, Hid (gw = w.heap.size) := ⟨_, rfl⟩
  rw [← hgw.out] at HO
  go_wp2_with fail
  go_loopw [3, 4] (fun t3 t4 wr => ∃ (k n : Nat) (A : Option Addr) (c : Nat), t3 = .slice A n c ∧ t4 = .int .i64 k ∧ k ≤ s.size ∧ n ≤ 1 + 2 * k ∧ Hid (n = (34 :: body (s.data.toList.take k)).length) ∧ Hid (wr.ownsRow gw 5 1 (.slice A n c) n (Lib.byteCells (34 :: body (s.data.toList.take k)))) ∧ Hid (Below w.heap.size w wr)) (fun _ t4 _ => s.size - (intOf t4).toNat)
  case atStart => exact ⟨0, 1, some ⟨w.heap.size, 0, none⟩, 1, rfl, rfl, Nat.zero_le _, by omega, rfl, (by have h := HO.out; rw [hgw.out] at h ⊢; exact h), HB⟩
  case round =>
    clear HO HB
    obtain ⟨k, n, A, c, rfl, rfl, hk, hnk, hn, HO, HB⟩ := hrel
    have hgs : Hid (gw ≤ wr.heap.size) := by rw [hgw.out]; exact HB.out.size
    by_cases hlt : k < s.size
    · obtain ⟨b, hb⟩ : ∃ b : UInt8, Hid (s[k] = b) := ⟨s[k], rfl⟩
      have hbI : ((s[k]).toNat : Int) = (b.toNat : Int) := by rw [hb.out]
      have HS : Hid (34 :: body (s.data.toList.take (k + 1)) = (34 :: body (s.data.toList.take k)) ++ qc b) := by
        rw [take_byte s k hlt, body_append, ← hb.out]
        show _ = 34 :: (body (s.data.toList.take k) ++ qc s[k])
        exact congrArg _ (congrArg _ (List.append_nil _))
      rcases qcB b with ⟨h, hq⟩ | ⟨h, hq⟩ | ⟨h, hq⟩ | ⟨h, hq⟩ | ⟨h, hq⟩ | ⟨h1, h2, h3, h4, h5, hq⟩
      · rw [hq] at HS
        have hv : ((s[k]).toNat : Int) = 34 := by rw [hb.out, h]; rfl
        have hN := Lib.hid (quo_news (w := wr.alloc (.cells #[.int .u8 92, .int .u8 34] 5)) (l := Lib.byteCells [92, 34]) (heap_alloc_new wr (.cells #[.int .u8 92, .int .u8 34] 5)) rfl)
        have hR := Lib.hid (HO.out.alloc (.cells #[.int .u8 92, .int .u8 34] 5))
        have hS : Hid (gw ≤ (wr.alloc (.cells #[.int .u8 92, .int .u8 34] 5)).heap.size) := by show _ ≤ _; rw [World.size_alloc]; exact Nat.le_succ_of_le hgs.out
        have hB5 : Hid (Below wr.heap.size wr (wr.alloc (.cells #[.int .u8 92, .int .u8 34] 5))) := (Below.refl _ wr).alloc (Nat.le_refl _) _
        go_upto_region 4 with (first
          | (at_builtin; refine append_any rfl (.tmp 24) (.tmp 28) 41 rfl gw 5 i5 (.int .u8 0) 1 Tryd.underlying41 I5.out Z5.out S5.out Y5.out rfl _ n (Lib.byteCells (34 :: body (s.data.toList.take k))) rfl hR.out (some ⟨wr.heap.size, 0, none⟩) 2 2 (Lib.byteCells [92, 34]) rfl rfl (fun h => by cases h) hN.out (quo_one (w := w) _) (by unfold maxLen; omega) (by omega) hS.out ?_; intro v5 w5 hown5 hb5; obtain ⟨A5, c5, rfl, HO5, hl5⟩ := quo_step hn.out (m := 2) rfl HS.out hown5; have HB5 : Hid (Below w.heap.size w w5) := HB.out.trans ((hB5.out.mono (by rw [← hgw.out]; exact hgs.out)).trans (by rw [← hgw.out]; exact hb5)); clear hown5 hb5)
          | fail)
        go_wp2_with fail
        exact ⟨⟨k + 1, n + 2, A5, c5, by first | rfl | exact ⟨rfl, rfl⟩, by go_num, by omega, by omega, hl5, HO5, HB5⟩, by simp [intOf]; omega⟩
      · rw [hq] at HS
        have hv : ((s[k]).toNat : Int) = 92 := by rw [hb.out, h]; rfl
        have hN := Lib.hid (quo_news (w := wr.alloc (.cells #[.int .u8 92, .int .u8 92] 5)) (l := Lib.byteCells [92, 92]) (heap_alloc_new wr (.cells #[.int .u8 92, .int .u8 92] 5)) rfl)
        have hR := Lib.hid (HO.out.alloc (.cells #[.int .u8 92, .int .u8 92] 5))
        have hS : Hid (gw ≤ (wr.alloc (.cells #[.int .u8 92, .int .u8 92] 5)).heap.size) := by show _ ≤ _; rw [World.size_alloc]; exact Nat.le_succ_of_le hgs.out
        have hB5 : Hid (Below wr.heap.size wr (wr.alloc (.cells #[.int .u8 92, .int .u8 92] 5))) := (Below.refl _ wr).alloc (Nat.le_refl _) _
        go_upto_region 4 with (first
          | (at_builtin; refine append_any rfl (.tmp 24) (.tmp 28) 41 rfl gw 5 i5 (.int .u8 0) 1 Tryd.underlying41 I5.out Z5.out S5.out Y5.out rfl _ n (Lib.byteCells (34 :: body (s.data.toList.take k))) rfl hR.out (some ⟨wr.heap.size, 0, none⟩) 2 2 (Lib.byteCells [92, 92]) rfl rfl (fun h => by cases h) hN.out (quo_one (w := w) _) (by unfold maxLen; omega) (by omega) hS.out ?_; intro v5 w5 hown5 hb5; obtain ⟨A5, c5, rfl, HO5, hl5⟩ := quo_step hn.out (m := 2) rfl HS.out hown5; have HB5 : Hid (Below w.heap.size w w5) := HB.out.trans ((hB5.out.mono (by rw [← hgw.out]; exact hgs.out)).trans (by rw [← hgw.out]; exact hb5)); clear hown5 hb5)
          | fail)
        go_wp2_with fail
        exact ⟨⟨k + 1, n + 2, A5, c5, by first | rfl | exact ⟨rfl, rfl⟩, by go_num, by omega, by omega, hl5, HO5, HB5⟩, by simp [intOf]; omega⟩
      · rw [hq] at HS
        have hv : ((s[k]).toNat : Int) = 10 := by rw [hb.out, h]; rfl
        have hN := Lib.hid (quo_news (w := wr.alloc (.cells #[.int .u8 92, .int .u8 110] 5)) (l := Lib.byteCells [92, 110]) (heap_alloc_new wr (.cells #[.int .u8 92, .int .u8 110] 5)) rfl)
        have hR := Lib.hid (HO.out.alloc (.cells #[.int .u8 92, .int .u8 110] 5))
        have hS : Hid (gw ≤ (wr.alloc (.cells #[.int .u8 92, .int .u8 110] 5)).heap.size) := by show _ ≤ _; rw [World.size_alloc]; exact Nat.le_succ_of_le hgs.out
        have hB5 : Hid (Below wr.heap.size wr (wr.alloc (.cells #[.int .u8 92, .int .u8 110] 5))) := (Below.refl _ wr).alloc (Nat.le_refl _) _
        go_upto_region 4 with (first
          | (at_builtin; refine append_any rfl (.tmp 32) (.tmp 33) 41 rfl gw 5 i5 (.int .u8 0) 1 Tryd.underlying41 I5.out Z5.out S5.out Y5.out rfl _ n (Lib.byteCells (34 :: body (s.data.toList.take k))) rfl hR.out (some ⟨wr.heap.size, 0, none⟩) 2 2 (Lib.byteCells [92, 110]) rfl rfl (fun h => by cases h) hN.out (quo_one (w := w) _) (by unfold maxLen; omega) (by omega) hS.out ?_; intro v5 w5 hown5 hb5; obtain ⟨A5, c5, rfl, HO5, hl5⟩ := quo_step hn.out (m := 2) rfl HS.out hown5; have HB5 : Hid (Below w.heap.size w w5) := HB.out.trans ((hB5.out.mono (by rw [← hgw.out]; exact hgs.out)).trans (by rw [← hgw.out]; exact hb5)); clear hown5 hb5)
          | fail)
        go_wp2_with fail
        exact ⟨⟨k + 1, n + 2, A5, c5, by first | rfl | exact ⟨rfl, rfl⟩, by go_num, by omega, by omega, hl5, HO5, HB5⟩, by simp [intOf]; omega⟩
      · rw [hq] at HS
        have hv : ((s[k]).toNat : Int) = 13 := by rw [hb.out, h]; rfl
        have hN := Lib.hid (quo_news (w := wr.alloc (.cells #[.int .u8 92, .int .u8 114] 5)) (l := Lib.byteCells [92, 114]) (heap_alloc_new wr (.cells #[.int .u8 92, .int .u8 114] 5)) rfl)
        have hR := Lib.hid (HO.out.alloc (.cells #[.int .u8 92, .int .u8 114] 5))
        have hS : Hid (gw ≤ (wr.alloc (.cells #[.int .u8 92, .int .u8 114] 5)).heap.size) := by show _ ≤ _; rw [World.size_alloc]; exact Nat.le_succ_of_le hgs.out
        have hB5 : Hid (Below wr.heap.size wr (wr.alloc (.cells #[.int .u8 92, .int .u8 114] 5))) := (Below.refl _ wr).alloc (Nat.le_refl _) _
        go_upto_region 4 with (first
          | (at_builtin; refine append_any rfl (.tmp 37) (.tmp 38) 41 rfl gw 5 i5 (.int .u8 0) 1 Tryd.underlying41 I5.out Z5.out S5.out Y5.out rfl _ n (Lib.byteCells (34 :: body (s.data.toList.take k))) rfl hR.out (some ⟨wr.heap.size, 0, none⟩) 2 2 (Lib.byteCells [92, 114]) rfl rfl (fun h => by cases h) hN.out (quo_one (w := w) _) (by unfold maxLen; omega) (by omega) hS.out ?_; intro v5 w5 hown5 hb5; obtain ⟨A5, c5, rfl, HO5, hl5⟩ := quo_step hn.out (m := 2) rfl HS.out hown5; have HB5 : Hid (Below w.heap.size w w5) := HB.out.trans ((hB5.out.mono (by rw [← hgw.out]; exact hgs.out)).trans (by rw [← hgw.out]; exact hb5)); clear hown5 hb5)
          | fail)
        go_wp2_with fail
        exact ⟨⟨k + 1, n + 2, A5, c5, by first | rfl | exact ⟨rfl, rfl⟩, by go_num, by omega, by omega, hl5, HO5, HB5⟩, by simp [intOf]; omega⟩
      · rw [hq] at HS
        have hv : ((s[k]).toNat : Int) = 9 := by rw [hb.out, h]; rfl
        have hN := Lib.hid (quo_news (w := wr.alloc (.cells #[.int .u8 92, .int .u8 116] 5)) (l := Lib.byteCells [92, 116]) (heap_alloc_new wr (.cells #[.int .u8 92, .int .u8 116] 5)) rfl)
        have hR := Lib.hid (HO.out.alloc (.cells #[.int .u8 92, .int .u8 116] 5))
        have hS : Hid (gw ≤ (wr.alloc (.cells #[.int .u8 92, .int .u8 116] 5)).heap.size) := by show _ ≤ _; rw [World.size_alloc]; exact Nat.le_succ_of_le hgs.out
        have hB5 : Hid (Below wr.heap.size wr (wr.alloc (.cells #[.int .u8 92, .int .u8 116] 5))) := (Below.refl _ wr).alloc (Nat.le_refl _) _
        go_upto_region 4 with (first
          | (at_builtin; refine append_any rfl (.tmp 42) (.tmp 43) 41 rfl gw 5 i5 (.int .u8 0) 1 Tryd.underlying41 I5.out Z5.out S5.out Y5.out rfl _ n (Lib.byteCells (34 :: body (s.data.toList.take k))) rfl hR.out (some ⟨wr.heap.size, 0, none⟩) 2 2 (Lib.byteCells [92, 116]) rfl rfl (fun h => by cases h) hN.out (quo_one (w := w) _) (by unfold maxLen; omega) (by omega) hS.out ?_; intro v5 w5 hown5 hb5; obtain ⟨A5, c5, rfl, HO5, hl5⟩ := quo_step hn.out (m := 2) rfl HS.out hown5; have HB5 : Hid (Below w.heap.size w w5) := HB.out.trans ((hB5.out.mono (by rw [← hgw.out]; exact hgs.out)).trans (by rw [← hgw.out]; exact hb5)); clear hown5 hb5)
          | fail)
        go_wp2_with fail
        exact ⟨⟨k + 1, n + 2, A5, c5, by first | rfl | exact ⟨rfl, rfl⟩, by go_num, by omega, by omega, hl5, HO5, HB5⟩, by simp [intOf]; omega⟩
      · rw [hq] at HS
        have hv1 : ((b.toNat : Int) == 34) = false := byte_eqF h1
        have hv2 : ((b.toNat : Int) == 92) = false := byte_eqF h2
        have hv3 : ((b.toNat : Int) == 10) = false := byte_eqF h3
        have hv4 : ((b.toNat : Int) == 13) = false := byte_eqF h4
        have hv5 : ((b.toNat : Int) == 9) = false := byte_eqF h5
        have hN := Lib.hid (quo_news (w := wr.alloc (.cells #[.int .u8 (b.toNat : Int)] 5)) (l := Lib.byteCells [b]) (heap_alloc_new wr (.cells #[.int .u8 (b.toNat : Int)] 5)) rfl)
        have hR := Lib.hid (HO.out.alloc (.cells #[.int .u8 (b.toNat : Int)] 5))
        have hS : Hid (gw ≤ (wr.alloc (.cells #[.int .u8 (b.toNat : Int)] 5)).heap.size) := by show _ ≤ _; rw [World.size_alloc]; exact Nat.le_succ_of_le hgs.out
        have hB5 : Hid (Below wr.heap.size wr (wr.alloc (.cells #[.int .u8 (b.toNat : Int)] 5))) := (Below.refl _ wr).alloc (Nat.le_refl _) _
        go_upto_region 4 with (first
          | (at_builtin; refine append_any rfl (.tmp 15) (.tmp 19) 41 rfl gw 5 i5 (.int .u8 0) 1 Tryd.underlying41 I5.out Z5.out S5.out Y5.out rfl _ n (Lib.byteCells (34 :: body (s.data.toList.take k))) rfl hR.out (some ⟨wr.heap.size, 0, none⟩) 1 1 (Lib.byteCells [b]) rfl rfl (fun h => by cases h) hN.out (quo_one (w := w) _) (by unfold maxLen; omega) (by omega) hS.out ?_; intro v5 w5 hown5 hb5; obtain ⟨A5, c5, rfl, HO5, hl5⟩ := quo_step hn.out (m := 1) rfl HS.out hown5; have HB5 : Hid (Below w.heap.size w w5) := HB.out.trans ((hB5.out.mono (by rw [← hgw.out]; exact hgs.out)).trans (by rw [← hgw.out]; exact hb5)); clear hown5 hb5)
          | fail)
        go_wp2_with fail
        exact ⟨⟨k + 1, n + 1, A5, c5, by first | rfl | exact ⟨rfl, rfl⟩, by go_num, by omega, by omega, hl5, HO5, HB5⟩, by simp [intOf]; omega⟩
    · obtain rfl : k = s.size := by omega
      have hall : s.data.toList.take s.size = s.data.toList := List.take_of_length_le (by simp)
      rw [hall] at hn HO
      have hN := Lib.hid (quo_news (w := wr.alloc (.cells #[.int .u8 34] 5)) (l := Lib.byteCells [34]) (heap_alloc_new wr (.cells #[.int .u8 34] 5)) rfl)
      have hR := Lib.hid (HO.out.alloc (.cells #[.int .u8 34] 5))
      have hS : Hid (gw ≤ (wr.alloc (.cells #[.int .u8 34] 5)).heap.size) := by show _ ≤ _; rw [World.size_alloc]; exact Nat.le_succ_of_le hgs.out
      have hB5 : Hid (Below wr.heap.size wr (wr.alloc (.cells #[.int .u8 34] 5))) := (Below.refl _ wr).alloc (Nat.le_refl _) _
      clear hall
      go_wp2_with (first
        | (at_builtin; refine append_any rfl (.tmp 45) (.tmp 46) 41 rfl gw 5 i5 (.int .u8 0) 1 Tryd.underlying41 I5.out Z5.out S5.out Y5.out rfl _ n (Lib.byteCells (34 :: body s.data.toList)) rfl hR.out (some ⟨wr.heap.size, 0, none⟩) 1 1 (Lib.byteCells [34]) rfl rfl (fun h => by cases h) hN.out (quo_one (w := w) _) (by unfold maxLen; omega) (by omega) hS.out ?_; intro v5 w5 hown5 hb5; obtain ⟨A5, c5, rfl, HO5, hl5⟩ := quo_step (L' := quo s.data.toList) hn.out (m := 1) rfl rfl hown5; have HB5 : Hid (Below w.heap.size w w5) := HB.out.trans ((hB5.out.mono (by rw [← hgw.out]; exact hgs.out)).trans (by rw [← hgw.out]; exact hb5)); have hcv := quo_conv hl5.out HO5.out; clear hown5 hb5)
        | fail)
      go_ret
      exact ⟨rfl, HB5.out⟩
end Go.Proofs.YtbldognffppeiaaDoor
