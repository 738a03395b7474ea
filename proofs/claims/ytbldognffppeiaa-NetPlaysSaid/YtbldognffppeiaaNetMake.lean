/- net.New, walked whole. -/
import Derived.Test.YtbldognffppeiaaNetMade
namespace Go.Proofs.Ytbldognffppeiaa
open Go.RowKit Go.Maps
set_option linter.unusedSimpArgs false
set_option linter.unusedVariables false
/-- A name stands twice. -/
def Dup (fs : List (ByteArray × List UInt8)) : Prop := ∃ k f, fs[k]? = some f ∧ lookF (fs.take k) f.1 ≠ none
theorem lookF_snoc (l : List (ByteArray × List UInt8)) (f : ByteArray × List UInt8) (nm : ByteArray) : lookF (l ++ [f]) nm = match lookF l nm with
    | some x => some x
    | none => if f.1 = nm then some f.2 else none := by
  induction l with
  | nil => rfl
  | cons g r ih =>
    simp only [List.cons_append, lookF]
    split
    · rfl
    · exact ih
theorem FaultsAt.below {w w1 : World} {A : Option Addr} {zs : List Int} (h : FaultsAt w A zs) (hb : Below w.heap.size w w1) : FaultsAt w1 A zs := fun j z hj => by
  obtain ⟨ad, e, hc⟩ := h j z hj
  exact ⟨ad, e, (hb.cell (World.block_lt_of_cell? w _ hc)).trans hc⟩
theorem keyLit_string (s : ByteArray) (hs : s.size ≤ maxLen) : WideAt.IsKeyLit (.string s.data.toList) := by
  unfold WideAt.IsKeyLit
  first | trivial | (simp; done) | exact hs
theorem run_look_net {w : World} {gm n : Nat} {D : DataW Value} (hown : w.ownsMap Try.prog 9 asIs gm n D) (nm : ByteArray) (hnm : nm.size ≤ maxLen) (v : Value) (hv : D.atKey (.string nm.data.toList) (.held (.slice none 0 0)) = .held v) :
    (Instr.lookup 25 (.map (some gm)) (.string nm) true).run Try.prog w = .ok (.tuple #[v, .bool (has D (.string nm.data.toList))]) w := by
  obtain ⟨u, ps, h1, h2⟩ := hown.look_ok (string_keyed Try.underlying9) Try.underlying25 (Try.zeroValue33 w) (zd := .held (.slice none 0 0)) rfl (nm_key nm hnm)
  rw [hv] at h2
  simp only [asIs, Option.some.injEq, Prod.mk.injEq, DataW.held.injEq] at h2
  rw [h1, h2.1]
theorem copy_reads {w : World} {A : Option Addr} {l : List UInt8} (h : ReadsB w A l) (h0 : 0 < (cellsB l).toList.length) : ∃ ad, A = some ad ∧ ∀ j v, (cellsB l).toList[j]? = some v → w.cell? (ad.add j) = some v := by
  have hl : 0 < l.length := by simpa [cellsB] using h0
  obtain ⟨ad, e, hc⟩ := h hl
  refine ⟨ad, e, fun j v hj => ?_⟩
  simp only [cellsB, List.getElem?_map] at hj
  obtain ⟨b, hb, rfl⟩ := Option.map_eq_some_iff.1 hj
  exact hc j b hb
theorem cells_one_mem (l : List UInt8) : ∀ v ∈ (cellsB l).toList, v.oneCell' = true := fun v hv => by
  simp only [cellsB, List.mem_map] at hv
  obtain ⟨b, _, rfl⟩ := hv
  rfl
theorem splice_whole (a b : List Value) (h : a.length = b.length) : splice a 0 b = b := by
  unfold splice
  simp [h]
theorem cell_not_map {w : World} {gm n : Nat} {D : DataW Value} (h : w.ownsMap Try.prog 9 asIs gm n D) {p : Addr} {v : Value} (hc : w.cell? p = some v) : p.block ≠ gm := fun e => by
  obtain ⟨es, clock, hb, _⟩ := h
  rw [← e] at hb
  unfold World.cell? at hc
  rw [hb] at hc
  cases hc
theorem FilesIn.turned {w w' : World} {gm n : Nat} {D : DataW Value} {A : Option Addr} {fs : List (ByteArray × List UInt8)} (h : FilesIn w A fs) (ho : w.ownsMap Try.prog 9 asIs gm n D) (hg : w.grownBy w' (some gm)) : FilesIn w' A fs := fun j f hj => by
  obtain ⟨g, Aj, cj, h1, h2, h3, h4, h5, h6, h7⟩ := h j f hj
  have hk : ∀ {p : Addr} {v : Value}, w.cell? p = some v → w'.cell? p = some v := fun hc => hg.cell hc (fun e => cell_not_map ho hc (by injection e))
  exact ⟨g, Aj, cj, h1, hk h2, hk h3, h4, h5, h6, fun hn => by
    obtain ⟨ad, e, hc⟩ := h7 hn
    exact ⟨ad, e, fun j b hj => hk (hc j b hj)⟩⟩
theorem take_snoc' {α : Type} (l : List α) (k : Nat) (x : α) (h : l[k]? = some x) : l.take (k + 1) = l.take k ++ [x] := by
  rw [List.take_add_one, h]; rfl
/-- What stands while New takes its files in. -/
structure NewInv (w : World) (gm gn : Nat) (B : Option Addr) (d : Nat) (zs : List Int) (fs : List (ByteArray × List UInt8)) (k : Nat) (D : DataW Value) (wr : World) : Prop where
  own : wr.ownsMap Try.prog 9 asIs gm k D
  net : NetB wr gn gm (.slice B zs.length d) 0
  faults : FaultsAt wr B zs
  files : FilesAt wr gn (gn + 1) wr.heap.size D fs
  below : Below w.heap.size w wr
  lo : w.heap.size ≤ gm
  lt : gm < gn
  apart : ∀ ad, B = some ad → gm < ad.block ∧ ad.block < gn
theorem FilesAt.grown {w w' : World} {gn : Nat} {D : DataW Value} {fs : List (ByteArray × List UInt8)} (h : FilesAt w gn (gn + 1) w.heap.size D fs) (hb : Below w.heap.size w w') : FilesAt w' gn (gn + 1) w'.heap.size D fs := fun nm => by
  have h1 := files_kept h (fun k _ h2 _ => hb.block k h2) nm
  cases hl : lookF fs nm with
  | none => rw [hl] at h1; exact h1
  | some l =>
    rw [hl] at h1
    obtain ⟨a1, gf, c, a2, a3, a4, a5, a6, a7, a8⟩ := h1
    exact ⟨a1, gf, c, a2, a3, a4, a5, a6, Nat.lt_of_lt_of_le a7 hb.size, a8⟩
theorem NewInv.grown {w wr w' : World} {gm gn : Nat} {B : Option Addr} {d : Nat} {zs : List Int} {fs : List (ByteArray × List UInt8)} {k : Nat} {D : DataW Value} (h : NewInv w gm gn B d zs fs k D wr) (hb : Below wr.heap.size wr w') : NewInv w gm gn B d zs fs k D w' :=
  ⟨owns_kept h.own (hb.block gm h.own.lt), (hb.block gn (Array.getElem?_eq_some_iff.1 h.net).1).trans h.net, h.faults.below hb, h.files.grown hb, below_step' h.below hb, h.lo, h.lt, h.apart⟩
theorem NewInv.drewN {w wr : World} {gm gn : Nat} {B : Option Addr} {d : Nat} {zs : List Int} {fs : List (ByteArray × List UInt8)} {k : Nat} {D : DataW Value} (h : NewInv w gm gn B d zs fs k D wr) (n : Nat) : NewInv w gm gn B d zs fs k D (wr.drewN n) :=
  ⟨h.own, h.net, h.faults, h.files, below_drewN' h.below n, h.lo, h.lt, h.apart⟩
theorem notBig {fs : List (ByteArray × List UInt8)} (h : anyBig fs = false) {k : Nat} {f : ByteArray × List UInt8} (hf : fs[k]? = some f) : f.2.length ≤ 1048576 := by
  rcases Nat.lt_or_ge 1048576 f.2.length with h1 | h1
  · rw [anyBig_hit fs k f hf (by simpa using h1)] at h
    cases h
  · exact h1
/-- A file is laid into the map. -/
theorem NewInv.put {w wr w' : World} {gm gn : Nat} {B : Option Addr} {d : Nat} {zs : List Int} {fs : List (ByteArray × List UInt8)} {k : Nat} {D : DataW Value} (h : NewInv w gm gn B d zs fs k D wr) (f : ByteArray × List UInt8) (hf : lookF fs f.1 = none) (hs : f.1.size ≤ maxLen) (hl : f.2.length ≤ 1048576) (gf : Nat) (hgf : gn < gf) (hb : Blk wr gf 5 (cellsB f.2))
    (hown : w'.ownsMap Try.prog 9 asIs gm (k + 1) (D.put (.string f.1.data.toList) (.held (.slice (some ⟨gf, 0, none⟩) f.2.length f.2.length)))) (hg : wr.grownBy w' (some gm)) : NewInv w gm gn B d zs (fs ++ [f]) (k + 1) (D.put (.string f.1.data.toList) (.held (.slice (some ⟨gf, 0, none⟩) f.2.length f.2.length))) w' := by
  have hlt := h.lt
  have hkeep : ∀ k, k < wr.heap.size → k ≠ gm → w'.heap[k]? = wr.heap[k]? := fun k h1 hne => hg.block k h1 (fun e => hne (by injection e))
  have hgn := (Array.getElem?_eq_some_iff.1 h.net).1
  have hgfl := hb.lt
  refine ⟨hown, (hkeep gn hgn (by omega)).trans h.net, fun j z hj => ?_, fun nm => ?_, ?_, h.lo, h.lt, h.apart⟩
  · obtain ⟨ad, e, hc⟩ := h.faults j z hj
    have h3 := h.apart ad e
    refine ⟨ad, e, (cell_kept ?_).trans hc⟩
    rw [addr_add_block]
    exact hkeep _ (by omega) (by omega)
  · have hk := keyLit_string f.1 hs
    by_cases he : nm = f.1
    · subst he
      rw [lookF_snoc, hf]
      simp only [if_true]
      refine ⟨has_put_same h.own.isMap hk _, gf, f.2.length, atKey_put_same h.own.isMap hk _ _, Nat.le_refl _, hl, by omega, by omega, Nat.lt_of_lt_of_le hgfl hg.size, ?_⟩
      exact reads_kept hb.reads (hkeep gf hgfl (by omega))
    · have hne : (Lit.string nm.data.toList) ≠ .string f.1.data.toList := fun e => he (by
        injection e with e
        have e2 : nm.data = f.1.data := Array.toList_inj.1 e
        cases nm; cases h1 : f.1; rw [h1] at e2; simp_all)
      rw [has_put_other hne, atKey_put_other hne]
      have h2 : lookF (fs ++ [f]) nm = lookF fs nm := by
        rw [lookF_snoc]
        cases lookF fs nm with
        | some x => rfl
        | none => exact if_neg (fun e => he e.symm)
      rw [h2]
      have h1 := files_kept h.files (w' := w') (fun k a b c => hkeep k b (by omega)) nm
      cases hl : lookF fs nm with
      | none => rw [hl] at h1; exact h1
      | some l =>
        rw [hl] at h1
        obtain ⟨a1, gf, c, a2, a3, a4, a5, a6, a7, a8⟩ := h1
        exact ⟨a1, gf, c, a2, a3, a4, a5, a6, Nat.lt_of_lt_of_le a7 hg.size, a8⟩
  · exact h.below.trans ⟨hg.os, hg.tape, hg.output, hg.size, fun k hk => hkeep k (Nat.lt_of_lt_of_le hk h.below.size) (by have := h.lo; omega)⟩
def NewSays (w : World) (fs : List (ByteArray × List UInt8)) (zs : List Int) (e : Ending) (w' : World) : Prop :=
  ((1024 < fs.length ∨ anyBig fs = true) ∧ e = .returned (.tuple #[.pointer none, .int .i64 2])) ∨
  (¬ 1024 < fs.length ∧ anyBig fs = false ∧ Dup fs ∧ e = .returned (.tuple #[.pointer none, .int .i64 13])) ∨
  (¬ 1024 < fs.length ∧ anyBig fs = false ∧ ¬ Dup fs ∧ ∃ gn, e = .returned (.tuple #[.pointer (some ⟨gn, 0, none⟩), .int .i64 0]) ∧ NetOf w' gn fs zs 0 w.heap.size w'.heap.size)
set_option maxHeartbeats 4000000 in
set_option maxRecDepth 100000 in
theorem new_net (A : Option Addr) (fs : List (ByteArray × List UInt8)) (c : Nat) (hn : fs.length ≤ maxLen) (A2 : Option Addr) (zs : List Int) (c2 : Nat) (hb : zs.length * 8 ≤ 140737488355328) (hA : A2 = none → zs.length = 0 ∧ c2 = 0)
    (w : World) (h : FilesIn w A fs) (hr : FaultsAt w A2 zs) :
    Calls Try.prog 10 #[.slice A fs.length c, .slice A2 zs.length c2] w fun e w' => NewSays w fs zs e w' ∧ Below w.heap.size w w' := by
  have HF := Lib.hid h
  have HR := Lib.hid hr
  have HN := Lib.hid hn
  have HA := Lib.hid hA
  obtain ⟨len, hlen⟩ : ∃ len, Hid (len = fs.length) := ⟨_, rfl⟩
  have hn' : len ≤ maxLen := by rw [hlen.out]; exact hn
  rw [← hlen.out]
  unfold maxLen at hn'
  clear h hr hn hA
  by_cases h1 : 1024 < len
  · have c1 : (1024 : Int) < (len : Int) := by omega
    go_enter Try.func10, Try.ntmps10
    go_wp2_with fail
    go_ret2
    exact ⟨.inl ⟨.inl (by rw [← hlen.out]; exact h1), rfl⟩, Below.refl _ _⟩
  · have c1 : ¬ (1024 : Int) < (len : Int) := by omega
    have HC : Hid (Calls Try.prog 17 #[.slice A len c, .func (.func 18) #[] #[]] w fun e w' => e = .returned (.bool (anyBig fs)) ∧ Below w.heap.size w w') := by
      rw [hlen.out]
      exact contains_any A fs c HN.out w HF.out
    cases hbig : anyBig fs
    · rw [hbig] at HC
      have hmm := @run_makeMap Try.prog
      go_enter Try.func10, Try.ntmps10
      go_upto_region 3 with (first | (go_at_call 17; refine HC.out.mono ?_; rintro e w1 ⟨rfl, hb1⟩; have HB1 := Lib.hid hb1; clear hb1) | fail)
      have HRm : Hid (FaultsAt (w1.alloc (.map #[] 0)) A2 zs) := (HR.out.below HB1.out).below ((Below.refl _ _).alloc (Nat.le_refl _) _)
      have hown0 := Lib.hid (World.ownsMap_made w1 Try.prog 9 asIs)
      have hbm := Lib.hid ((Below.refl w1.heap.size w1).alloc (Nat.le_refl _) (.map #[] 0))
      obtain ⟨gm, hgm⟩ : ∃ gm, Hid (gm = w1.heap.size) := ⟨_, rfl⟩
      have hszm : Hid ((w1.alloc (.map #[] 0)).heap.size = gm + 1) := by rw [Hid, hgm.out]; exact World.size_alloc _ _
      go_upto_region 4 with (first | (go_at_call 19; refine (clone_net A2 zs c2 hb HA.out _ HRm.out).mono ?_; rintro e w2 ⟨⟨B, d, rfl, hB, hBl⟩, hb2⟩; have HB2 := Lib.hid hb2; have HFB := Lib.hid hB; have HBL := Lib.hid hBl; clear hb2 hB hBl) | fail)
      rw [← hgm.out]
      rw [← hgm.out] at hown0
      have hinv : Hid (NewInv w gm w2.heap.size B d zs [] 0 (.map []) (w2.alloc (.cells #[.map (some gm), .slice B zs.length d, .int .i64 0] 28))) := by
        have h2 := HB2.out
        have hsz2 := h2.size
        rw [hszm.out] at hsz2
        refine ⟨owns_kept (owns_kept hown0.out (h2.block gm hown0.out.lt)) (Below.heap_alloc w2 _ gm (by omega)), heap_alloc_new w2 _, HFB.out.below ((Below.refl _ _).alloc (Nat.le_refl _) _), fun nm => ⟨rfl, rfl⟩, ?_, ?_, by omega, ?_⟩
        · exact (below_step' (below_step' HB1.out hbm.out) h2).alloc (below_step' (below_step' HB1.out hbm.out) h2).size _
        · rw [hgm.out]; exact HB1.out.size
        · intro ad e
          have := HBL.out ad e
          rw [hszm.out] at this
          omega
      have HB3 : Hid (Below w1.heap.size w1 (w2.alloc (.cells #[.map (some gm), .slice B zs.length d, .int .i64 0] 28))) := (below_step' hbm.out HB2.out).alloc (below_step' hbm.out HB2.out).size _
      have HF1 := Lib.hid ((HF.out.below HB1.out).below HB3.out)
      clear HB2 HFB HBL hown0 hbm HRm hszm hmm HC hgm HR HF
      obtain ⟨gn, hgn⟩ : ∃ gn, gn = w2.heap.size := ⟨_, rfl⟩
      rw [← hgn] at hinv ⊢
      clear hgn
      generalize w2.alloc (.cells #[.map (some gm), .slice B zs.length d, .int .i64 0] 28) = w3 at *
      go_wp2_with fail
      go_loopw [26] (fun t26 wr => ∃ k : Nat, ∃ D, t26 = .int .i64 k ∧ k ≤ len ∧ Hid (NewInv w gm gn B d zs (fs.take k) k D wr) ∧ Hid (FilesIn wr A fs) ∧ Hid (∀ j f, j < k → fs[j]? = some f → lookF (fs.take j) f.1 = none)) (fun t26 _ => len - (intOf t26).toNat)
      case atStart => exact ⟨0, _, rfl, by omega, hinv, HF1, fun j f h => by omega⟩
      case round =>
        clear hinv HF1
        obtain ⟨k, D, rfl, hk, HI, HFr, HD⟩ := hrel
        by_cases hlt : k < len
        · obtain ⟨f, hf⟩ : ∃ f, Hid (fs[k]? = some f) := ⟨_, List.getElem?_eq_getElem (by have := hlen.out; omega)⟩
          obtain ⟨g, Aj, cj, rfl, q2, q3, q4, q5, q6, q7⟩ := HFr.out k f hf.out
          have HQ7 := Lib.hid q7
          have hfl : f.2.length ≤ maxLen := by omega
          have d1 : (k : Int) < (len : Int) := by omega
          have d2 : (0 : Int) ≤ (k : Int) := by omega
          clear q7
          go_upto_region 7 with (fail)
          have HB6 := Lib.hid (Blk.new wr 41 #[.string f.1, .slice Aj f.2.length cj])
          have HW6 := Lib.hid ((Below.refl wr.heap.size wr).alloc (Nat.le_refl _) (.cells #[.string f.1, .slice Aj f.2.length cj] 41))
          have HI6 := Lib.hid (HI.out.grown HW6.out)
          have HF6 := Lib.hid (HFr.out.below HW6.out)
          have HR6 := Lib.hid (HQ7.out.below HW6.out)
          obtain ⟨g6, hg6⟩ : ∃ g6, Hid (g6 = wr.heap.size) := ⟨_, rfl⟩
          have HNE : Hid (gn ≠ g6) := fun e => by have := (Array.getElem?_eq_some_iff.1 HI.out.net).1; rw [e, hg6.out] at this; omega
          rw [← hg6.out] at HB6 ⊢
          clear HI HFr HQ7 HW6 q2 q3 hg6
          generalize wr.alloc (.cells #[.string f.1, .slice Aj f.2.length cj] 41) = w6 at *
          have n0 : w6.cell? ⟨gn, 0, none⟩ = some (.map (some gm)) := by rw [cell_at HI6.out.net]; rfl
          have n6 : w6.cell? ⟨g6, 0, none⟩ = some (.string f.1) := HB6.out.cell 0
          have HL := HI6.out.files f.1
          obtain ⟨v, hv⟩ : ∃ v, D.atKey (.string f.1.data.toList) (.held (.slice none 0 0)) = .held v := by
            cases hx : lookF (fs.take k) f.1 with
            | none => rw [hx] at HL; exact ⟨_, HL.2⟩
            | some l => rw [hx] at HL; obtain ⟨_, gf, c, h, _⟩ := HL; exact ⟨_, h⟩
          have hlk : ∀ n, (Instr.lookup 25 (.map (some gm)) (.string f.1) true).run Try.prog (w6.drewN n) = .ok (.tuple #[v, .bool (has D (.string f.1.data.toList))]) (w6.drewN n) := fun n => run_look_net (w := w6.drewN n) HI6.out.own f.1 q6 v hv
          clear hv
          have hkk : Hid (lookF (fs.take k) f.1 ≠ none ↔ has D (.string f.1.data.toList) = true) := by
            cases hx : lookF (fs.take k) f.1 with
            | none => rw [hx] at HL; rw [HL.1]; simp [Hid]
            | some l => rw [hx] at HL; rw [HL.1]; simp [Hid]
          clear HL
          cases hh : has D (.string f.1.data.toList)
          · rw [hh] at hlk hkk
            have hno : Hid (lookF (fs.take k) f.1 = none) := by have := hkk.out; simpa [Hid] using this
            go_quiet (fail)
            have HI7 := Lib.hid (HI6.out.drewN nq)
            have HF7 : Hid (FilesIn (w6.drewN nq) (some ⟨g, 0, none⟩) fs) := HF6.out
            have HR7 : Hid (ReadsB (w6.drewN nq) Aj f.2) := HR6.out
            have HB7 : Hid (Blk (w6.drewN nq) g6 41 #[.string f.1, .slice Aj f.2.length cj]) := HB6.out
            clear HI6 HF6 HR6 HB6 n0 n6 hlk
            generalize w6.drewN nq = w7 at *
            have n1 : w7.cell? ⟨g6, 1, none⟩ = some (.slice Aj f.2.length cj) := HB7.out.cell 1
            obtain ⟨m, hm⟩ : ∃ m, Hid (m = f.2.length) := ⟨_, rfl⟩
            have hm1 : m ≤ 1048576 := by rw [hm.out]; exact notBig hbig hf.out
            rw [← hm.out] at n1
            have hmk := make_zeros m hm1 w7
            go_upto_region 11 with (fail)
            have HX8 := Lib.hid (Blk.new w7 5 (cellsB (List.replicate m 0)))
            have HW8 := Lib.hid ((Below.refl w7.heap.size w7).alloc (Nat.le_refl _) (.cells (cellsB (List.replicate m 0)) 5))
            have n2 : (w7.alloc (.cells (cellsB (List.replicate m 0)) 5)).cell? ⟨g6, 1, none⟩ = some (.slice Aj m cj) := (HW8.out.cell (World.block_lt_of_cell? w7 _ n1)).trans n1
            have HR8 := Lib.hid (HR7.out.below HW8.out)
            obtain ⟨gx, hgx⟩ : ∃ gx, Hid (gx = w7.heap.size) := ⟨_, rfl⟩
            have hgnx : gn < gx := by rw [hgx.out]; exact (Array.getElem?_eq_some_iff.1 HI7.out.net).1
            rw [← hgx.out] at HX8 ⊢
            clear n1 hmk
            generalize w7.alloc (.cells (cellsB (List.replicate m 0)) 5) = w8 at *
            go_upto_region 12 with (refine wpList_copy_splice rfl (.tmp 45) (.tmp 47) 33 33 rfl 5 Try.underlying33 (by kernel_rfl) (some ⟨gx, 0, none⟩) Aj m m m cj rfl rfl gx 0 (cellsB (List.replicate m 0)).toList 5 HX8.out (cellsB f.2).toList (by rw [hm.out]; simp [cellsB]) (fun h0 => ⟨rfl, copy_reads HR8.out h0⟩) (by rw [hm.out]; simp [cellsB]) (cells_one_mem _) w7.heap.size w7 HW8.out (by rw [hgx.out]; exact Nat.le_refl _) ?_; intro w9 h9 hb9; have HB9 := Lib.hid hb9; clear hb9)
            have HX9 : Hid (Blk w9 gx 5 (cellsB f.2)) := by
              have h := h9.out
              rw [splice_whole _ _ (by rw [hm.out]; simp [cellsB])] at h
              exact h
            have HI9 := Lib.hid (HI7.out.grown HB9.out)
            have HF9 := Lib.hid (HF7.out.below HB9.out)
            have HN9 := Lib.hid (HB7.out.below HB9.out HB7.out.lt)
            clear h9 HX8 HR8 HR7 HF7 HI7 HB7 HB9 HW8 n2 hgx
            have n0 : w9.cell? ⟨gn, 0, none⟩ = some (.map (some gm)) := by rw [cell_at HI9.out.net]; rfl
            have n6 : w9.cell? ⟨g6, 0, none⟩ = some (.string f.1) := HN9.out.cell 0
            refine wp_region_still_tail 7 (by kernel_rfl) (by kernel_rfl) ?_
            simp only [List.take_succ_cons, List.take_zero, List.drop_succ_cons, List.drop_zero]
            repeat still_step
            refine wpStill_nil ?_
            change wpList _ _ _ _ _ (w9.drewN 1)
            have HI10 := Lib.hid (HI9.out.drewN 1)
            have HF10 : Hid (FilesIn (w9.drewN 1) (some ⟨g, 0, none⟩) fs) := HF9.out
            have HX10 : Hid (Blk (w9.drewN 1) gx 5 (cellsB f.2)) := HX9.out
            clear HI9 HF9 HX9 HN9 n0 n6
            generalize w9.drewN 1 = w10 at *
            refine wpList_mapUpdate_own _ rfl (.tmp 52) (.tmp 54) (.tmp 55) 25 rfl 9 33 (string_keyed Try.underlying9) Try.underlying25 asIs gm k D rfl HI10.out.own (by unfold maxLen; omega) _ _ _ rfl rfl (nm_key f.1 q6) _ [] rfl ?_
            intro w11 hown11 hg11
            have HF11 := Lib.hid (HF10.out.turned HI10.out.own hg11)
            rw [hm.out] at hown11
            have HI11 := Lib.hid (HI10.out.put f hno.out q6 (by rw [← hm.out]; exact hm1) gx hgnx HX10.out hown11 hg11)
            clear hown11 hg11 HF10 HI10 HX10
            go_wp2_with fail
            refine ⟨⟨k + 1, _, by first | rfl | simp, by omega, by rw [take_snoc' fs k f hf.out]; exact HI11, HF11, ?_⟩, by simp [intOf]; omega⟩
            intro j f' hj hf'
            by_cases hjk : j < k
            · exact HD.out j f' hjk hf'
            · obtain rfl : j = k := by omega
              rw [hf.out] at hf'
              injection hf' with hf'
              subst hf'
              exact hno.out
          · rw [hh] at hlk hkk
            go_quiet (fail)
            have HB7 : Hid (Below w.heap.size w (w6.drewN nq)) := below_drewN' HI6.out.below nq
            go_wp2_with fail
            go_ret2
            refine ⟨.inr (.inl ⟨by rw [← hlen.out]; exact h1, hbig, ⟨k, f, hf.out, hkk.out.2 (by trivial)⟩, rfl⟩), HB7.out⟩
        · have d1 : ¬ (k : Int) < (len : Int) := by omega
          go_wp2_with fail
          go_ret2
          have hi := HI.out
          rw [List.take_of_length_le (by have := hlen.out; omega)] at hi
          refine ⟨.inr (.inr ⟨by rw [← hlen.out]; exact h1, hbig, ?_, gn, rfl, ?_⟩), hi.below⟩
          · rintro ⟨j, f, hf, hne⟩
            exact hne (HD.out j f (by have := (List.getElem?_eq_some_iff.1 hf).1; have := hlen.out; omega) hf)
          · have hgn := (Array.getElem?_eq_some_iff.1 hi.net).1
            have h1 := hi.lo
            have h2 := hi.lt
            refine ⟨gm, B, d, k, D, hi.net, hi.faults, hi.own, by omega, hgn, h1, by omega, by omega, fun ad e => ?_, fun nm => ?_⟩
            · have := hi.apart ad e
              omega
            · have h3 := hi.files nm
              cases hl : lookF fs nm with
              | none => rw [hl] at h3; exact h3
              | some l =>
                rw [hl] at h3
                obtain ⟨a1, gf, c, a2, a3, a4, a5, a6, a7, a8⟩ := h3
                exact ⟨a1, gf, c, a2, a3, a4, a5, by omega, a7, a8⟩
    · rw [hbig] at HC
      go_enter Try.func10, Try.ntmps10
      go_wp2_with (first | (go_at_call 17; refine HC.out.mono ?_; rintro e w1 ⟨rfl, hb1⟩; have HB1 := Lib.hid hb1; clear hb1) | fail)
      go_ret2
      exact ⟨.inl ⟨.inr hbig, rfl⟩, HB1.out⟩
end Go.Proofs.Ytbldognffppeiaa
