/- The reference's network: what one question to it says, walked. -/
import Derived.Test.YtbldognffppeiaaWalkWhole
namespace Go.Proofs.Ytbldognffppeiaa
open Go.RowKit Go.Maps
set_option linter.unusedSimpArgs false
set_option linter.unusedVariables false
def ReadsS (S : Nat → Prop) (w : World) (A : Option Addr) (l : List UInt8) : Prop :=
  0 < l.length → ∃ ad, A = some ad ∧ S ad.block ∧ ∀ (j : Nat) (b : UInt8), l[j]? = some b → w.cell? (ad.add j) = some (.int .u8 (b.toNat : Int))
def FilesS (S : Nat → Prop) (w : World) (A : Option Addr) (fs : List (ByteArray × List UInt8)) : Prop :=
  ∀ (j : Nat) (f : ByteArray × List UInt8), fs[j]? = some f → ∃ g Aj cj, A = some ⟨g, 0, none⟩ ∧ S g ∧ w.cell? ⟨g, j * 2, none⟩ = some (.string f.1) ∧ w.cell? ⟨g, j * 2 + 1, none⟩ = some (.slice Aj f.2.length cj) ∧ f.2.length ≤ cj ∧ cj ≤ maxLen ∧ f.1.size ≤ maxLen ∧ ReadsS S w Aj f.2
def FaultsS (S : Nat → Prop) (w : World) (B : Option Addr) (zs : List Int) : Prop := ∀ j z, zs[j]? = some z → ∃ ad, B = some ad ∧ S ad.block ∧ w.cell? (ad.add j) = some (.int .i64 z)
def RefB (w : World) (rn : Nat) (A : Option Addr) (n cA : Nat) (B : Option Addr) (m cB : Nat) (a : Nat) : Prop := w.heap[rn]? = some (.cells #[.slice A n cA, .slice B m cB, .int .i64 (a : Int)] 56 (0, 0))
/-- The reference's network: its files and faults lie in blocks of S; it was asked a times. -/
def RefOf (S : Nat → Prop) (w : World) (rn : Nat) (fs : List (ByteArray × List UInt8)) (zs : List Int) (a : Nat) : Prop :=
  ∃ A cA B cB, RefB w rn A fs.length cA B zs.length cB a ∧ ¬ S rn ∧ FilesS S w A fs ∧ FaultsS S w B zs
theorem ReadsS.reads {S : Nat → Prop} {w : World} {A : Option Addr} {l : List UInt8} (h : ReadsS S w A l) : ReadsB w A l := fun hn => by
  obtain ⟨ad, e, _, hc⟩ := h hn
  exact ⟨ad, e, hc⟩
theorem ReadsS.kept {S : Nat → Prop} {w w' : World} {A : Option Addr} {l : List UInt8} (h : ReadsS S w A l) (hk : ∀ k, S k → k < w.heap.size → w'.heap[k]? = w.heap[k]?) : ReadsS S w' A l := fun hn => by
  obtain ⟨ad, e, hs, hc⟩ := h hn
  refine ⟨ad, e, hs, fun j b hj => (cell_kept ?_).trans (hc j b hj)⟩
  have := World.block_lt_of_cell? w _ (hc j b hj)
  rw [addr_add_block] at this ⊢
  exact hk _ hs this
theorem FilesS.kept {S : Nat → Prop} {w w' : World} {A : Option Addr} {fs : List (ByteArray × List UInt8)} (h : FilesS S w A fs) (hk : ∀ k, S k → k < w.heap.size → w'.heap[k]? = w.heap[k]?) : FilesS S w' A fs := fun j f hj => by
  obtain ⟨g, Aj, cj, h1, hs, h2, h3, h4, h5, h6, h7⟩ := h j f hj
  have hlt := World.block_lt_of_cell? w _ h2
  exact ⟨g, Aj, cj, h1, hs, (cell_kept (p := ⟨g, j * 2, none⟩) (hk g hs hlt)).trans h2, (cell_kept (p := ⟨g, j * 2 + 1, none⟩) (hk g hs hlt)).trans h3, h4, h5, h6, h7.kept hk⟩
theorem FaultsS.kept {S : Nat → Prop} {w w' : World} {B : Option Addr} {zs : List Int} (h : FaultsS S w B zs) (hk : ∀ k, S k → k < w.heap.size → w'.heap[k]? = w.heap[k]?) : FaultsS S w' B zs := fun j z hj => by
  obtain ⟨ad, e, hs, hc⟩ := h j z hj
  refine ⟨ad, e, hs, (cell_kept ?_).trans hc⟩
  have := World.block_lt_of_cell? w _ hc
  rw [addr_add_block] at this ⊢
  exact hk _ hs this
theorem RefOf.kept {S : Nat → Prop} {w w' : World} {rn : Nat} {fs : List (ByteArray × List UInt8)} {zs : List Int} {a : Nat} (h : RefOf S w rn fs zs a) (hk : ∀ k, S k ∨ k = rn → k < w.heap.size → w'.heap[k]? = w.heap[k]?) : RefOf S w' rn fs zs a := by
  obtain ⟨A, cA, B, cB, h1, h2, h3, h4⟩ := h
  exact ⟨A, cA, B, cB, (hk rn (.inr rfl) (Array.getElem?_eq_some_iff.1 h1).1).trans h1, h2, h3.kept (fun k hs => hk k (.inl hs)), h4.kept (fun k hs => hk k (.inl hs))⟩
/-- Behind a question. -/
theorem RefOf.asked {S : Nat → Prop} {w w' : World} {rn : Nat} {fs : List (ByteArray × List UInt8)} {zs : List Int} {a' : Nat} {A B : Option Addr} {cA cB : Nat} (h2 : ¬ S rn) (h3 : FilesS S w A fs) (h4 : FaultsS S w B zs) (hg : w.grownBy w' (some rn)) (hB : RefB w' rn A fs.length cA B zs.length cB a') : RefOf S w' rn fs zs a' :=
  ⟨A, cA, B, cB, hB, h2, h3.kept (fun k hs hl => hg.block k hl (fun e => h2 (by injection e with e; rw [← e]; exact hs))), h4.kept (fun k hs hl => hg.block k hl (fun e => h2 (by injection e with e; rw [← e]; exact hs)))⟩
theorem ref_set {w : World} {rn : Nat} {A B : Option Addr} {n cA m cB a : Nat} (h : RefB w rn A n cA B m cB a) : RefB (w.setCell ⟨rn, 2, none⟩ (.int .i64 ((a : Int) + 1))) rn A n cA B m cB (a + 1) := by
  unfold RefB at h ⊢
  have hlt := (Array.getElem?_eq_some_iff.1 h).1
  unfold World.setCell
  simp only [Array.getElem?_modify, if_true, h, Option.map_some]
  simp
theorem ref_free {w : World} {rn : Nat} {A B : Option Addr} {n cA m cB a : Nat} (h : RefB w rn A n cA B m cB a) (i : Nat) : w.frozen? ⟨rn, i, none⟩ = false := by
  unfold RefB at h
  simp [World.frozen?, h]
/-- What the reference's question says. -/
def RAsk (S : Nat → Prop) (w' : World) (code : Int) (l : Option (List UInt8)) (e : Ending) : Prop :=
  (code = 1 ∧ e = .returned (.tuple #[.int .i64 code, .slice none 0 0, .int .i64 45])) ∨
  (code ≠ 1 ∧ (code = 4 ∨ l = none) ∧ e = .returned (.tuple #[.int .i64 code, .slice none 0 0, .int .i64 14])) ∨
  (code ≠ 1 ∧ code ≠ 4 ∧ ∃ b A c, l = some b ∧ e = .returned (.tuple #[.int .i64 code, .slice A b.length c, .int .i64 0]) ∧ b.length ≤ c ∧ c ≤ maxLen ∧ ReadsS S w' A b)
theorem lookF_none {fs : List (ByteArray × List UInt8)} {nm : ByteArray} (h : ∀ (j : Nat) (f : ByteArray × List UInt8), fs[j]? = some f → f.1 ≠ nm) : lookF fs nm = none := by
  induction fs with
  | nil => rfl
  | cons f r ih =>
    unfold lookF
    rw [if_neg (h 0 f rfl)]
    exact ih (fun j g hj => h (j + 1) g hj)
theorem lookF_at {fs : List (ByteArray × List UInt8)} {nm : ByteArray} (k : Nat) (f : ByteArray × List UInt8) (hf : fs[k]? = some f) (h : ∀ (j : Nat) (g : ByteArray × List UInt8), j < k → fs[j]? = some g → g.1 ≠ nm) (he : f.1 = nm) : lookF fs nm = some f.2 := by
  induction fs generalizing k with
  | nil => simp at hf
  | cons g r ih =>
    cases k with
    | zero =>
      simp at hf
      subst hf
      unfold lookF
      rw [if_pos he]
    | succ k =>
      unfold lookF
      rw [if_neg (h 0 g (by omega) rfl)]
      exact ih k (by simpa using hf) (fun j x hj hx => h (j + 1) x (by omega) hx)
set_option maxHeartbeats 4000000 in
set_option maxRecDepth 100000 in
/-- The part behind the turn's count. -/
theorem refAsk_some (S : Nat → Prop) (rn : Nat) (A : Option Addr) (fs : List (ByteArray × List UInt8)) (cA : Nat) (B : Option Addr) (zs : List Int) (cB a : Nat) (hn : fs.length ≤ maxLen) (hm : zs.length ≤ 1152921504606846976) (hab : a ≤ 1048576) (nm : ByteArray) (hnm : nm.size ≤ maxLen) (w : World)
    (h1 : RefB w rn A fs.length cA B zs.length cB a) (h2 : ¬ S rn) (h3 : FilesS S w A fs) (h4 : FaultsS S w B zs) :
    Calls Try.prog 20 #[.pointer (some ⟨rn, 0, none⟩), .string nm] w fun e w' => RAsk S w' (codeAt zs a) (lookF fs nm) e ∧ w.grownBy w' (some rn) ∧ RefB w' rn A fs.length cA B zs.length cB (a + 1) := by
  have H1 := Lib.hid h1
  have H3 := Lib.hid h3
  have n1 : w.cell? ⟨rn, 1, none⟩ = some (.slice B zs.length cB) := by rw [cell_at h1]; rfl
  have n2 : w.cell? ⟨rn, 2, none⟩ = some (.int .i64 (a : Int)) := by rw [cell_at h1]; rfl
  obtain ⟨m, hmm⟩ : ∃ m, Hid (m = zs.length) := ⟨_, rfl⟩
  obtain ⟨n, hnn⟩ : ∃ n, Hid (n = fs.length) := ⟨_, rfl⟩
  obtain ⟨code, hcode⟩ : ∃ code, Hid (code = codeAt zs a) := ⟨_, rfl⟩
  rw [← hcode.out]
  rw [← hmm.out] at n1 hm ⊢
  rw [← hnn.out] at hn ⊢
  unfold maxLen at hn
  have hcell : Hid (a < m → ∃ ad, B = some ad ∧ w.cell? (ad.add a) = some (.int .i64 code)) := fun h => by
    have hlt : a < zs.length := by rw [← hmm.out]; exact h
    obtain ⟨ad, e, _, hc⟩ := h4 a zs[a] (List.getElem?_eq_getElem hlt)
    refine ⟨ad, e, ?_⟩
    rw [hc, hcode.out]
    unfold codeAt
    rw [List.getD_eq_getElem?_getD, List.getElem?_eq_getElem hlt]; rfl
  have hzero : Hid (¬ a < m → code = 0) := fun h => by
    rw [hcode.out]
    unfold codeAt
    rw [List.getD_eq_getElem?_getD, List.getElem?_eq_none (by rw [← hmm.out]; omega)]; rfl
  clear h1 h3 h4 hcode
  go_enter Try.func20, Try.ntmps20
  go_upto_region 2 with (fail)
  go_quiet (fail)
  have HB1 : Hid (RefB (w.drewN nq) rn A n cA B m cB a) := by rw [hnn.out, hmm.out]; exact H1.out
  have HG1 : Hid (w.grownBy (w.drewN nq) (some rn)) := ⟨rfl, rfl, rfl, Nat.le_refl _, fun _ _ _ => rfl⟩
  have HF1 : Hid (FilesS S (w.drewN nq) A fs) := H3.out
  have HC1 : Hid (a < m → ∃ ad, B = some ad ∧ (w.drewN nq).cell? (ad.add a) = some (.int .i64 code)) := hcell.out
  clear H1 H3 n1 n2 hcell
  generalize w.drewN nq = w1 at *
  have n1 : w1.cell? ⟨rn, 1, none⟩ = some (.slice B m cB) := by rw [cell_at HB1.out]; rfl
  have n2 : w1.cell? ⟨rn, 2, none⟩ = some (.int .i64 (a : Int)) := by rw [cell_at HB1.out]; rfl
  go_upto_if 18 with (fail)
  go_cut [7] (fun t7 wx => t7 = .int .i64 code ∧ ∃ k, wx = w1.drewN k)
  case first =>
    by_cases hlt : a < m
    · obtain ⟨ad, rfl, hc⟩ := HC1.out hlt
      have d1 : (a : Int) < (m : Int) := by omega
      have d2 : (0 : Int) ≤ (a : Int) := by omega
      go_upto_region 3 with (fail)
      go_quiet (fail)
      go_wp2_with fail
      go_meet
      exact ⟨rfl, _, rfl⟩
    · have d1 : ¬ (a : Int) < (m : Int) := by omega
      go_wp2_with fail
      go_meet
      exact ⟨by rw [hzero.out hlt], 0, rfl⟩
  case rest =>
    obtain ⟨rfl, k, rfl⟩ := hcut
    have HB2 : Hid (RefB (w1.drewN k) rn A n cA B m cB a) := HB1.out
    have HG2 : Hid (w.grownBy (w1.drewN k) (some rn)) := ⟨HG1.out.os, HG1.out.tape, HG1.out.output, HG1.out.size, HG1.out.block⟩
    have HF2 : Hid (FilesS S (w1.drewN k) A fs) := HF1.out
    clear HB1 HG1 HF1 HC1 n1 n2
    generalize w1.drewN k = w2 at *
    have n2 : w2.cell? ⟨rn, 2, none⟩ = some (.int .i64 (a : Int)) := by rw [cell_at HB2.out]; rfl
    have hfz := ref_free HB2.out 2
    go_upto_region 5 with (fail)
    have HB3 := Lib.hid (ref_set HB2.out)
    have HG3 := Lib.hid (grown_set HG2.out (.int .i64 ((a : Int) + 1)) 2)
    have HF3 : Hid (FilesS S (w2.setCell ⟨rn, 2, none⟩ (.int .i64 ((a : Int) + 1))) A fs) := HF2.out.kept (fun j hs hl => Below.heap_setCell w2 ⟨rn, 2, none⟩ _ j (fun e => h2 (by have e2 : j = rn := e; rw [← e2]; exact hs)))
    clear HB2 HG2 HF2 n2 hfz
    generalize w2.setCell ⟨rn, 2, none⟩ (.int .i64 ((a : Int) + 1)) = w3 at *
    have n0 : w3.cell? ⟨rn, 0, none⟩ = some (.slice A n cA) := by rw [cell_at HB3.out]; rfl
    by_cases e1 : code = 1
    · subst e1
      go_wp2_with fail
      go_ret3
      exact ⟨.inl ⟨rfl, rfl⟩, HG3.out, HB3.out⟩
    have e1' : (code == 1) = false := by simpa using e1
    by_cases e4 : code = 4
    · subst e4
      go_wp2_with fail
      go_loop [8] (fun t8 => t8 = .int .i64 0) (fun _ => 0)
      case atStart => rfl
      case round =>
        subst hrel
        by_cases hz : 0 < n
        · have d1 : (0 : Int) < (n : Int) := by omega
          go_wp2_with fail
          go_ret3
          exact ⟨.inr (.inl ⟨by decide, .inl rfl, rfl⟩), HG3.out, HB3.out⟩
        · have d1 : ¬ (0 : Int) < (n : Int) := by omega
          go_wp2_with fail
          go_ret3
          exact ⟨.inr (.inl ⟨by decide, .inl rfl, rfl⟩), HG3.out, HB3.out⟩
    have e4' : (code != 4) = true := by simpa using e4
    go_wp2_with fail
    go_loop [8] (fun t8 => ∃ i : Nat, t8 = .int .i64 i ∧ i ≤ n ∧ Hid (∀ (j : Nat) (g : ByteArray × List UInt8), j < i → fs[j]? = some g → g.1 ≠ nm)) (fun t8 => n - (intOf t8).toNat)
    case atStart => exact ⟨0, rfl, by omega, fun j g h => by omega⟩
    case round =>
      obtain ⟨i, rfl, hi, hno⟩ := hrel
      by_cases hlt : i < n
      · obtain ⟨f, hf⟩ : ∃ f, Hid (fs[i]? = some f) := ⟨_, List.getElem?_eq_getElem (by rw [← hnn.out]; exact hlt)⟩
        obtain ⟨g, Aj, cj, rfl, hsg, q2, q3, q4, q5, q6, q7⟩ := HF3.out i f hf.out
        have HQ7 := Lib.hid q7
        have d1 : (i : Int) < (n : Int) := by omega
        have d2 : (0 : Int) ≤ (i : Int) := by omega
        clear q7
        by_cases he : f.1 = nm
        · have hq : (f.1.toList == nm.toList) = true := by rw [he]; simp
          go_upto_region 11 with (fail)
          go_quiet (fail)
          have HG4 : Hid (w.grownBy (w3.drewN nq) (some rn)) := ⟨HG3.out.os, HG3.out.tape, HG3.out.output, HG3.out.size, HG3.out.block⟩
          have HB4 : Hid (RefB (w3.drewN nq) rn (some ⟨g, 0, none⟩) n cA B m cB (a + 1)) := HB3.out
          have HR4 : Hid (ReadsS S (w3.drewN nq) Aj f.2) := HQ7.out
          have hlk := Lib.hid (lookF_at i f hf.out hno.out he)
          clear HB3 HG3 HF3 HQ7
          generalize w3.drewN nq = w4 at *
          go_wp2_with fail
          go_ret3
          exact ⟨.inr (.inr ⟨e1, e4, f.2, Aj, cj, hlk.out, rfl, q4, q5, HR4.out⟩), HG4.out, HB4.out⟩
        · have hq : (f.1.toList == nm.toList) = false := by
            have hl : f.1.toList ≠ nm.toList := fun e => he (by
              rw [ByteArray.toList_eq, ByteArray.toList_eq] at e
              have e2 : f.1.data = nm.data := Array.toList_inj.1 e
              cases nm; cases h1 : f.1; rw [h1] at e2; simp_all)
            simpa using hl
          go_wp2_with fail
          refine ⟨⟨i + 1, by first | rfl | simp, by omega, ?_⟩, by simp [intOf]; omega⟩
          intro j g' hj hg'
          by_cases hji : j < i
          · exact hno.out j g' hji hg'
          · obtain rfl : j = i := by omega
            rw [hf.out] at hg'
            injection hg' with hg'
            subst hg'
            exact he
      · have d1 : ¬ (i : Int) < (n : Int) := by omega
        go_wp2_with fail
        go_ret3
        refine ⟨.inr (.inl ⟨e1, .inr (lookF_none fun j g hj => hno.out j g ?_ hj), rfl⟩), HG3.out, HB3.out⟩
        have := (List.getElem?_eq_some_iff.1 hj).1
        have := hnn.out
        omega
end Go.Proofs.Ytbldognffppeiaa
