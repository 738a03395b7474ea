/- The reference's network: New, walked. -/
import Derived.Test.YtbldognffppeiaaNetRefGet
namespace Go.Proofs.Ytbldognffppeiaa
open Go.RowKit Go.Maps
set_option linter.unusedSimpArgs false
set_option linter.unusedVariables false
theorem str_ne {s t : ByteArray} (h : s ≠ t) : (s.toList == t.toList) = false := by
  have hl : s.toList ≠ t.toList := fun e => h (by
    rw [ByteArray.toList_eq, ByteArray.toList_eq] at e
    have e2 : s.data = t.data := Array.toList_inj.1 e
    cases s; cases t; simp_all)
  simpa using hl
theorem lookF_some_of {fs : List (ByteArray × List UInt8)} {nm : ByteArray} {k : Nat} {f : ByteArray × List UInt8} (hf : fs[k]? = some f) (he : f.1 = nm) : lookF fs nm ≠ none := by
  induction fs generalizing k with
  | nil => simp at hf
  | cons g r ih =>
    unfold lookF
    split
    · exact fun h => by cases h
    · cases k with
      | zero => simp at hf; subst hf; contradiction
      | succ k => exact ih (by simpa using hf)
def RNewSays (S : Nat → Prop) (w : World) (fs : List (ByteArray × List UInt8)) (zs : List Int) (e : Ending) (w' : World) : Prop :=
  ((1024 < fs.length ∨ anyBig fs = true) ∧ e = .returned (.tuple #[.pointer none, .int .i64 2])) ∨
  (¬ 1024 < fs.length ∧ anyBig fs = false ∧ Dup fs ∧ e = .returned (.tuple #[.pointer none, .int .i64 13])) ∨
  (¬ 1024 < fs.length ∧ anyBig fs = false ∧ ¬ Dup fs ∧ ∃ rn, w.heap.size ≤ rn ∧ e = .returned (.tuple #[.pointer (some ⟨rn, 0, none⟩), .int .i64 0]) ∧ RefOf S w' rn fs zs 0)
theorem FilesS.drewN {S : Nat → Prop} {w : World} {A : Option Addr} {fs : List (ByteArray × List UInt8)} (h : FilesS S w A fs) (n : Nat) : FilesS S (w.drewN n) A fs := h
set_option maxHeartbeats 4000000 in
set_option maxRecDepth 100000 in
theorem refNew_any (S : Nat → Prop) (A : Option Addr) (fs : List (ByteArray × List UInt8)) (c : Nat) (hn : fs.length ≤ maxLen) (B : Option Addr) (zs : List Int) (c2 : Nat) (w : World) (hS : ∀ k, S k → k < w.heap.size) (h : FilesS S w A fs) (hr : FaultsS S w B zs) :
    Calls Try.prog 11 #[.slice A fs.length c, .slice B zs.length c2] w fun e w' => RNewSays S w fs zs e w' ∧ Below w.heap.size w w' := by
  have HF := Lib.hid h
  have HR := Lib.hid hr
  have HS := Lib.hid hS
  obtain ⟨n, hnn⟩ : ∃ n, Hid (n = fs.length) := ⟨_, rfl⟩
  obtain ⟨m, hmm⟩ : ∃ m, Hid (m = zs.length) := ⟨_, rfl⟩
  rw [← hnn.out] at hn ⊢
  rw [← hmm.out]
  unfold maxLen at hn
  clear h hr hS
  by_cases h1 : 1024 < n
  · have c1 : (1024 : Int) < (n : Int) := by omega
    go_enter Try.func11, Try.ntmps11
    go_wp2_with fail
    go_ret2
    exact ⟨.inl ⟨.inl (by rw [← hnn.out]; exact h1), rfl⟩, Below.refl _ _⟩
  · have c1 : ¬ (1024 : Int) < (n : Int) := by omega
    go_enter Try.func11, Try.ntmps11
    go_wp2_with fail
    go_loop [6] (fun t6 => ∃ i : Nat, t6 = .int .i64 i ∧ i ≤ n ∧ Hid (anyBig (fs.take i) = false)) (fun t6 => n - (intOf t6).toNat)
    case atStart => exact ⟨0, rfl, by omega, rfl⟩
    case round =>
      obtain ⟨i, rfl, hi, hb⟩ := hrel
      by_cases hlt : i < n
      · obtain ⟨f, hf⟩ : ∃ f, Hid (fs[i]? = some f) := ⟨_, List.getElem?_eq_getElem (by have := hnn.out; omega)⟩
        obtain ⟨g, Aj, cj, rfl, _, q2, q3, q4, q5, q6, q7⟩ := HF.out i f hf.out
        obtain ⟨k, hk⟩ : ∃ k, Hid (k = f.2.length) := ⟨_, rfl⟩
        rw [← hk.out] at q3 q4
        unfold maxLen at q5
        have d1 : (i : Int) < (n : Int) := by omega
        have d2 : (0 : Int) ≤ (i : Int) := by omega
        clear q2 q7
        by_cases hbig : 1048576 < k
        · have d3 : (1048576 : Int) < (k : Int) := by omega
          go_wp2_with fail
          go_ret2
          exact ⟨.inl ⟨.inr (anyBig_hit fs i f hf.out (by rw [← hk.out]; simpa using hbig)), rfl⟩, Below.refl _ _⟩
        · have d3 : ¬ (1048576 : Int) < (k : Int) := by omega
          go_wp2_with fail
          refine ⟨⟨i + 1, by first | rfl | simp, by omega, anyBig_step fs i f hf.out hb.out (by rw [← hk.out]; simpa using hbig)⟩, by simp [intOf]; omega⟩
      · obtain rfl : i = n := by omega
        have hbig : Hid (anyBig fs = false) := by
          have h := hb.out
          rwa [List.take_of_length_le (by have := hnn.out; omega)] at h
        have d1 : ¬ (i : Int) < (i : Int) := by omega
        clear hb
        go_wp2_with fail
        go_loopw [7] (fun t7 wr => ∃ j m : Nat, t7 = .int .i64 j ∧ j ≤ i ∧ wr = w.drewN m ∧ Hid (∀ (x : Nat) (f : ByteArray × List UInt8), x < j → fs[x]? = some f → lookF (fs.take x) f.1 = none)) (fun t7 _ => i - (intOf t7).toNat)
        case atStart => exact ⟨0, 0, rfl, by omega, rfl, fun x f h => by omega⟩
        case round =>
          obtain ⟨j, m0, rfl, hj, rfl, hno⟩ := hrel
          by_cases hlt : j < i
          · obtain ⟨f, hf⟩ : ∃ f, Hid (fs[j]? = some f) := ⟨_, List.getElem?_eq_getElem (by have := hnn.out; omega)⟩
            obtain ⟨g, Aj, cj, rfl, _, q2, q3, q4, q5, q6, q7⟩ := HF.out j f hf.out
            have d1 : (j : Int) < (i : Int) := by omega
            have d2 : (0 : Int) ≤ (j : Int) := by omega
            clear q3 q7
            obtain ⟨wo, hwo⟩ : ∃ wo : World, Hid (wo = w.drewN m0) := ⟨_, rfl⟩
            go_wp2_with fail
            go_loopw [8] (fun t8 wr => ∃ k m : Nat, t8 = .int .i64 k ∧ k ≤ j ∧ wr = w.drewN m ∧ Hid (∀ (x : Nat) (f' : ByteArray × List UInt8), x < k → fs[x]? = some f' → f'.1 ≠ f.1)) (fun t8 _ => j - (intOf t8).toNat)
            case atStart => exact ⟨0, m0, rfl, by omega, rfl, fun x f h => by omega⟩
            case round =>
              obtain ⟨k, m1, rfl, hk, rfl, hne⟩ := hrel
              by_cases hkj : k < j
              · obtain ⟨f2, hf2⟩ : ∃ f, Hid (fs[k]? = some f) := ⟨_, List.getElem?_eq_getElem (by have := hnn.out; omega)⟩
                obtain ⟨g', Aj2, cj2, e2, _, r2, r3, r4, r5, r6, r7⟩ := HF.out k f2 hf2.out
                injection e2 with e2
                injection e2 with e2
                subst e2
                have d3 : (k : Int) < (j : Int) := by omega
                have d4 : (0 : Int) ≤ (k : Int) := by omega
                have d5 : (k : Int) < (i : Int) := by omega
                clear r3 r7
                by_cases he : f2.1 = f.1
                · have hq : (f2.1.toList == f.1.toList) = true := by rw [he]; simp
                  go_upto_region 14 with (fail)
                  go_quiet (fail)
                  go_wp2_with fail
                  go_ret2
                  refine ⟨.inr (.inl ⟨by rw [← hnn.out]; exact h1, hbig.out, ⟨j, f, hf.out, ?_⟩, rfl⟩), ?_⟩
                  · exact lookF_some_of (k := k) (by rw [List.getElem?_take, if_pos hkj]; exact hf2.out) he
                  · exact below_drewN' (Below.refl _ _) (m1 + nq)
                · have hq := str_ne he
                  go_upto_region 14 with (fail)
                  go_quiet (fail)
                  go_wp2_with fail
                  refine ⟨⟨k + 1, m1 + nq, by first | rfl | simp, by omega, by first | rfl | exact World.drewN_drewN _ _ _, ?_⟩, by simp [intOf]; omega⟩
                  intro x f' hx hf'
                  by_cases hxk : x < k
                  · exact hne.out x f' hxk hf'
                  · obtain rfl : x = k := by omega
                    rw [hf2.out] at hf'
                    injection hf' with hf'
                    subst hf'
                    exact he
              · obtain rfl : k = j := by omega
                have d3 : ¬ (k : Int) < (k : Int) := by omega
                go_wp2_with fail
                refine ⟨⟨k + 1, m1, by first | rfl | simp, by omega, rfl, ?_⟩, by simp [intOf]; omega⟩
                intro x f' hx hf'
                by_cases hxk : x < k
                · exact hno.out x f' hxk hf'
                · obtain rfl : x = k := by omega
                  rw [hf.out] at hf'
                  injection hf' with hf'
                  subst hf'
                  exact lookF_none (fun y g hy => by
                    rw [List.getElem?_take] at hy
                    split at hy
                    · exact hne.out y g (by assumption) hy
                    · cases hy)
          · obtain rfl : j = i := by omega
            have d1 : ¬ (j : Int) < (j : Int) := by omega
            go_wp2_with fail
            go_ret2
            have hbl : Below w.heap.size w ((w.drewN m0).alloc (.cells #[.slice A j c, .slice B m c2, .int .i64 0] 56)) := (below_drewN' (Below.refl _ _) m0).alloc (Nat.le_refl _) _
            refine ⟨.inr (.inr ⟨by rw [← hnn.out]; exact h1, hbig.out, ?_, w.heap.size, Nat.le_refl _, rfl, ?_⟩), hbl⟩
            · rintro ⟨x, f, hf, hne⟩
              exact hne (hno.out x f (by have := (List.getElem?_eq_some_iff.1 hf).1; have := hnn.out; omega) hf)
            · refine ⟨A, c, B, c2, ?_, fun h => Nat.lt_irrefl _ (HS.out _ h), HF.out.kept (fun k _ hl => hbl.block k hl), HR.out.kept (fun k _ hl => hbl.block k hl)⟩
              rw [← hnn.out, ← hmm.out]
              exact heap_alloc_new (w.drewN m0) _
end Go.Proofs.Ytbldognffppeiaa
