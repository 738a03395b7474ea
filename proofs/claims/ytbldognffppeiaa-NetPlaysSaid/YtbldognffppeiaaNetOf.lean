/- A network as a whole: its files and its faults; what each request does to it. -/
import Derived.Test.YtbldognffppeiaaNetGet
namespace Go.Proofs.Ytbldognffppeiaa
open Go.RowKit Go.Maps
set_option linter.unusedSimpArgs false
set_option linter.unusedVariables false
/-- The bytes of the first file of this name. -/
def lookF : List (ByteArray × List UInt8) → ByteArray → Option (List UInt8)
  | [], _ => none
  | f :: r, nm => if f.1 = nm then some f.2 else lookF r nm
/-- How one name reads in the map. -/
def FileAt (w : World) (gn lo hi : Nat) (h : Bool) (v : DataW Value) : Option (List UInt8) → Prop
  | none => h = false ∧ v = .held (.slice none 0 0)
  | some l => h = true ∧ ∃ gf c, v = .held (.slice (some ⟨gf, 0, none⟩) l.length c) ∧ l.length ≤ c ∧ l.length ≤ 1048576 ∧ gf ≠ gn ∧ lo ≤ gf ∧ gf < hi ∧ ReadsB w (some ⟨gf, 0, none⟩) l
def FilesAt (w : World) (gn lo hi : Nat) (D : DataW Value) (fs : List (ByteArray × List UInt8)) : Prop :=
  ∀ nm : ByteArray, FileAt w gn lo hi (has D (.string nm.data.toList)) (D.atKey (.string nm.data.toList) (.held (.slice none 0 0))) (lookF fs nm)
/-- A network that holds these files, and these faults, and was asked a times; all its blocks lie between lo and hi. -/
def NetOf (w : World) (gn : Nat) (fs : List (ByteArray × List UInt8)) (zs : List Int) (a lo hi : Nat) : Prop :=
  ∃ gm B d n D, NetB w gn gm (.slice B zs.length d) a ∧ FaultsAt w B zs ∧ w.ownsMap Try.prog 9 asIs gm n D ∧ lo ≤ gn ∧ gn < hi ∧ lo ≤ gm ∧ gm < hi ∧ gm ≠ gn ∧ (∀ ad, B = some ad → lo ≤ ad.block ∧ ad.block < hi ∧ ad.block ≠ gn) ∧ FilesAt w gn lo hi D fs
/-- Blocks from lo to hi are as they were. -/
def Keeps (lo hi : Nat) (w w' : World) : Prop := ∀ k, lo ≤ k → k < hi → w'.heap[k]? = w.heap[k]?
theorem Keeps.trans {lo hi : Nat} {w w1 w2 : World} (h : Keeps lo hi w w1) (k : Keeps lo hi w1 w2) : Keeps lo hi w w2 := fun i h1 h2 => (k i h1 h2).trans (h i h1 h2)
theorem Keeps.refl (lo hi : Nat) (w : World) : Keeps lo hi w w := fun _ _ _ => rfl
theorem Below.keeps {B lo hi : Nat} {w w' : World} (h : Below B w w') (hh : hi ≤ B) : Keeps lo hi w w' := fun k _ h2 => h.block k (by omega)
theorem cell_kept {w w' : World} {p : Addr} (h : w'.heap[p.block]? = w.heap[p.block]?) : w'.cell? p = w.cell? p := by
  unfold World.cell?
  rw [h]
theorem reads_kept {w w' : World} {g : Nat} {l : List UInt8} (h : ReadsB w (some ⟨g, 0, none⟩) l) (hk : w'.heap[g]? = w.heap[g]?) : ReadsB w' (some ⟨g, 0, none⟩) l := fun hn => by
  obtain ⟨ad, he, hc⟩ := h hn
  injection he with he
  subst he
  refine ⟨_, rfl, fun j b hj => (cell_kept ?_).trans (hc j b hj)⟩
  rw [Addr.add_mid]
  exact hk
theorem addr_add_block (p : Addr) (j : Nat) : (p.add j).block = p.block := by unfold Addr.add; split <;> rfl
theorem owns_kept {w w' : World} {g n : Nat} {D : DataW Value} (h : w.ownsMap Try.prog 9 asIs g n D) (hk : w'.heap[g]? = w.heap[g]?) : w'.ownsMap Try.prog 9 asIs g n D := by
  obtain ⟨es, clock, hb, F, hs, hD⟩ := h
  exact ⟨es, clock, hk.trans hb, F, hs, hD⟩
theorem files_kept {w w' : World} {gn lo hi : Nat} {D : DataW Value} {fs : List (ByteArray × List UInt8)} (h : FilesAt w gn lo hi D fs) (hk : ∀ k, lo ≤ k → k < hi → k ≠ gn → w'.heap[k]? = w.heap[k]?) : FilesAt w' gn lo hi D fs := fun nm => by
  have h1 := h nm
  cases hl : lookF fs nm with
  | none => rw [hl] at h1; exact h1
  | some l =>
    rw [hl] at h1
    obtain ⟨a1, gf, c, a2, a3, a4, a5, a6, a7, a8⟩ := h1
    exact ⟨a1, gf, c, a2, a3, a4, a5, a6, a7, reads_kept a8 (hk gf a6 a7 a5)⟩
theorem NetOf.kept {w w' : World} {gn : Nat} {fs : List (ByteArray × List UInt8)} {zs : List Int} {a lo hi : Nat} (h : NetOf w gn fs zs a lo hi) (hk : Keeps lo hi w w') : NetOf w' gn fs zs a lo hi := by
  obtain ⟨gm, B, d, n, D, h1, h2, h3, h4, h5, h6, h7, h8, h9, h10⟩ := h
  refine ⟨gm, B, d, n, D, (hk gn h4 h5).trans h1, fun j z hj => ?_, owns_kept h3 (hk gm h6 h7), h4, h5, h6, h7, h8, h9, files_kept h10 (fun k a b _ => hk k a b)⟩
  obtain ⟨ad, e, hc⟩ := h2 j z hj
  refine ⟨ad, e, (cell_kept ?_).trans hc⟩
  rw [addr_add_block]
  exact hk _ (h9 ad e).1 (h9 ad e).2.1
/-- Behind a question. -/
theorem NetOf.asked {w w' : World} {gn gm : Nat} {B : Option Addr} {d n : Nat} {D : DataW Value} {fs : List (ByteArray × List UInt8)} {zs : List Int} {a lo hi : Nat} (h : AskedBy w gn gm (.slice B zs.length d) a w') (h2 : FaultsAt w B zs) (h3 : w.ownsMap Try.prog 9 asIs gm n D) (h4 : lo ≤ gn) (h5 : gn < hi) (h6 : lo ≤ gm) (h7 : gm < hi) (h8 : gm ≠ gn)
    (h9 : ∀ ad, B = some ad → lo ≤ ad.block ∧ ad.block < hi ∧ ad.block ≠ gn) (h10 : FilesAt w gn lo hi D fs) (hh : hi ≤ w.heap.size) : NetOf w' gn fs zs a lo hi := by
  obtain ⟨hg, hN⟩ := h
  have hk : ∀ k, lo ≤ k → k < hi → k ≠ gn → w'.heap[k]? = w.heap[k]? := fun k _ h2 hne => hg.block k (by omega) (fun e => hne (by injection e))
  refine ⟨gm, B, d, n, D, hN, fun j z hj => ?_, owns_kept h3 (hk gm h6 h7 h8), h4, h5, h6, h7, h8, h9, files_kept h10 hk⟩
  obtain ⟨ad, e, hc⟩ := h2 j z hj
  refine ⟨ad, e, (cell_kept ?_).trans hc⟩
  rw [addr_add_block]
  exact hk _ (h9 ad e).1 (h9 ad e).2.1 (h9 ad e).2.2
/-- What Get answers: the bytes, and the error. -/
def getV (fs : List (ByteArray × List UInt8)) (code : Int) (nm : ByteArray) (p lim : Nat) : List UInt8 × Int :=
  if code = 1 then ([], 45) else if code = 4 then ([], 14) else match lookF fs nm with
    | none => ([], 14)
    | some l => (getOut code l p lim, 0)
/-- What Size answers. -/
def sizeV (fs : List (ByteArray × List UInt8)) (code : Int) (nm : ByteArray) : Int × Int :=
  if code = 1 then (0, 45) else if code = 4 then (0, 14) else match lookF fs nm with
    | none => (0, 14)
    | some l => (if code = 2 then ((l.length / 2 : Nat) : Int) else if code = 3 then ((l.length + 1 : Nat) : Int) else (l.length : Int), 0)
/-- The bytes that Get hands out lie in a block of their own, or there are none. -/
def OwnB (w w' : World) (A : Option Addr) (l : List UInt8) : Prop := (A = none ∧ l = []) ∨ ∃ gx, w.heap.size ≤ gx ∧ A = some ⟨gx, 0, none⟩ ∧ Blk w' gx 5 (cellsB l)
theorem get_net (gn : Nat) (fs : List (ByteArray × List UInt8)) (zs : List Int) (a lo hi : Nat) (hm : zs.length ≤ 1152921504606846976) (hab : a ≤ 1048576) (nm : ByteArray) (hnm : nm.size ≤ maxLen) (p lim : Nat) (hp : p ≤ 9223372036854775807) (hl1 : 1 ≤ lim) (hl2 : lim ≤ 65536) (w : World) (hN : NetOf w gn fs zs a lo hi) (hh : hi ≤ w.heap.size) :
    Calls Try.prog 8 #[.pointer (some ⟨gn, 0, none⟩), .string nm, .int .i64 p, .int .i64 lim] w fun e w' =>
      ∃ A, e = .returned (.tuple #[.slice A (getV fs (codeAt zs a) nm p lim).1.length (getV fs (codeAt zs a) nm p lim).1.length, .int .i64 (getV fs (codeAt zs a) nm p lim).2]) ∧ OwnB w w' A (getV fs (codeAt zs a) nm p lim).1 ∧ w.grownBy w' (some gn) ∧ NetOf w' gn fs zs (a + 1) lo hi := by
  obtain ⟨gm, B, d, n, D, h1, h2, h3, h4, h5, h6, h7, h8, h9, h10⟩ := hN
  have hf := h10 nm
  have hne : ∀ ad, B = some ad → ad.block ≠ gn := fun ad e => (h9 ad e).2.2
  have herr : ∀ (v : Value) (er : Int), er ≠ 0 → D.atKey (.string nm.data.toList) (.held (.slice none 0 0)) = .held v → askV (codeAt zs a) (has D (.string nm.data.toList)) v = .tuple #[.int .i64 (codeAt zs a), .slice none 0 0, .int .i64 er] → getV fs (codeAt zs a) nm p lim = ([], er) →
      Calls Try.prog 8 #[.pointer (some ⟨gn, 0, none⟩), .string nm, .int .i64 p, .int .i64 lim] w fun e w' =>
        ∃ A, e = .returned (.tuple #[.slice A (getV fs (codeAt zs a) nm p lim).1.length (getV fs (codeAt zs a) nm p lim).1.length, .int .i64 (getV fs (codeAt zs a) nm p lim).2]) ∧ OwnB w w' A (getV fs (codeAt zs a) nm p lim).1 ∧ w.grownBy w' (some gn) ∧ NetOf w' gn fs zs (a + 1) lo hi := by
    intro v er her hv hask hg
    rw [hg]
    refine (get_err gn gm B zs d a hm hab nm hnm p lim (by omega) (by omega) (by omega) w h1 h2 h8 hne n D h3 v hv er her hask).mono ?_
    rintro e w' ⟨rfl, hA⟩
    exact ⟨none, rfl, .inl ⟨rfl, rfl⟩, hA.1, NetOf.asked hA h2 h3 h4 h5 h6 h7 h8 h9 h10 hh⟩
  by_cases c1 : codeAt zs a = 1
  · cases hl : lookF fs nm with
    | none => rw [hl] at hf; exact herr _ 45 (by omega) hf.2 (by unfold askV; rw [if_pos c1]) (by unfold getV; rw [if_pos c1])
    | some l => rw [hl] at hf; obtain ⟨_, gf, c, hv, _⟩ := hf; exact herr _ 45 (by omega) hv (by unfold askV; rw [if_pos c1]) (by unfold getV; rw [if_pos c1])
  by_cases c4 : codeAt zs a = 4
  · cases hl : lookF fs nm with
    | none => rw [hl] at hf; exact herr _ 14 (by omega) hf.2 (by unfold askV; rw [if_neg c1, if_pos (.inl c4)]) (by unfold getV; rw [if_neg c1, if_pos c4])
    | some l => rw [hl] at hf; obtain ⟨_, gf, c, hv, _⟩ := hf; exact herr _ 14 (by omega) hv (by unfold askV; rw [if_neg c1, if_pos (.inl c4)]) (by unfold getV; rw [if_neg c1, if_pos c4])
  cases hl : lookF fs nm with
  | none => rw [hl] at hf; exact herr _ 14 (by omega) hf.2 (by unfold askV; rw [if_neg c1, if_pos (.inr hf.1)]) (by unfold getV; rw [if_neg c1, if_neg c4, hl])
  | some l =>
    rw [hl] at hf
    obtain ⟨hok, gf, c, hv, hlc, hll, hgf, hlo, hhi, hr⟩ := hf
    have hg : getV fs (codeAt zs a) nm p lim = (getOut (codeAt zs a) l p lim, 0) := by unfold getV; rw [if_neg c1, if_neg c4, hl]
    rw [hg]
    refine (get_ok gn gm B zs d a hm hab nm hnm p lim hp hl1 hl2 w h1 h2 h8 hne n D h3 gf c l hlc hll hgf hr hv hok c1 c4).mono ?_
    rintro e w' ⟨⟨gx, hx, rfl, hb⟩, hA⟩
    exact ⟨_, rfl, .inr ⟨gx, hx, rfl, hb⟩, hA.1, NetOf.asked hA h2 h3 h4 h5 h6 h7 h8 h9 h10 hh⟩
theorem get_none (gn : Nat) (fs : List (ByteArray × List UInt8)) (zs : List Int) (a lo hi : Nat) (nm : ByteArray) (p lim : Int) (hbad : p < 0 ∨ lim < 1 ∨ 65536 < lim) (w : World) (hN : NetOf w gn fs zs a lo hi) :
    Calls Try.prog 8 #[.pointer (some ⟨gn, 0, none⟩), .string nm, .int .i64 p, .int .i64 lim] w fun e w' => e = .returned (.tuple #[.slice none 0 0, .int .i64 2]) ∧ w = w' := by
  obtain ⟨gm, B, d, n, D, h1, h2, h3, h4, h5, h6, h7, h8, h9, h10⟩ := hN
  exact get_bad gn gm _ a nm p lim hbad w h1
set_option maxHeartbeats 4000000 in
set_option maxRecDepth 100000 in
/-- How many requests there were. -/
theorem asked_net (gn : Nat) (fs : List (ByteArray × List UInt8)) (zs : List Int) (a lo hi : Nat) (w : World) (hN : NetOf w gn fs zs a lo hi) : Calls Try.prog 9 #[.pointer (some ⟨gn, 0, none⟩)] w fun e w' => e = .returned (.int .i64 (a : Int)) ∧ w = w' := by
  obtain ⟨gm, B, d, n, D, h1, h2, h3, h4, h5, h6, h7, h8, h9, h10⟩ := hN
  have n2 : w.cell? ⟨gn, 2, none⟩ = some (.int .i64 (a : Int)) := by rw [cell_at h1]; rfl
  have HN := Lib.hid h1
  clear h1 h2 h3 h4 h5 h6 h7 h8 h9 h10
  go_enter Try.func9, Try.ntmps9
  go_wp2_with fail
  refine (some_call w gn gm _ a HN.out).mono ?_
  rintro e w1 ⟨rfl, rfl⟩
  go_wp2_with fail
  go_ret
  exact ⟨rfl, rfl⟩
set_option maxHeartbeats 4000000 in
set_option maxRecDepth 100000 in
/-- Size, where the question says an error. -/
theorem size_err (gn gm : Nat) (B : Option Addr) (zs : List Int) (d a : Nat) (hm : zs.length ≤ 1152921504606846976) (hab : a ≤ 1048576) (nm : ByteArray) (hnm : nm.size ≤ maxLen) (w : World) (hN : NetB w gn gm (.slice B zs.length d) a) (hB : FaultsAt w B zs) (hgm : gm ≠ gn)
    (hne : ∀ ad, B = some ad → ad.block ≠ gn) (n : Nat) (D : DataW Value) (hown : w.ownsMap Try.prog 9 asIs gm n D) (v : Value) (hv : D.atKey (.string nm.data.toList) (.held (.slice none 0 0)) = .held v)
    (er : Int) (her : er ≠ 0) (hask : askV (codeAt zs a) (has D (.string nm.data.toList)) v = .tuple #[.int .i64 (codeAt zs a), .slice none 0 0, .int .i64 er]) :
    Calls Try.prog 7 #[.pointer (some ⟨gn, 0, none⟩), .string nm] w fun e w' => e = .returned (.tuple #[.int .i64 0, .int .i64 er]) ∧ AskedBy w gn gm (.slice B zs.length d) (a + 1) w' := by
  have HN := Lib.hid hN
  have HA := Lib.hid (ask_any gn gm B zs d a hm hab nm hnm w hN hB hgm hne n D hown v hv)
  rw [hask] at HA
  have e1 : (er == 0) = false := by simpa using her
  clear hN hB hown hv hask hne
  go_enter Try.func7, Try.ntmps7
  go_wp2_with fail
  refine (some_call w gn gm _ a HN.out).mono ?_
  rintro e w1 ⟨rfl, rfl⟩
  go_wp2_with fail
  refine HA.out.mono ?_
  rintro e w2 ⟨rfl, hask⟩
  have HK := Lib.hid hask
  clear hask HA HN
  go_wp2_with fail
  go_ret2
  exact ⟨rfl, HK.out⟩
set_option maxHeartbeats 4000000 in
set_option maxRecDepth 100000 in
/-- Size, where it says bytes. -/
theorem size_ok (gn gm : Nat) (B : Option Addr) (zs : List Int) (d a : Nat) (hm : zs.length ≤ 1152921504606846976) (hab : a ≤ 1048576) (nm : ByteArray) (hnm : nm.size ≤ maxLen) (w : World) (hN : NetB w gn gm (.slice B zs.length d) a) (hB : FaultsAt w B zs) (hgm : gm ≠ gn)
    (hne : ∀ ad, B = some ad → ad.block ≠ gn) (n : Nat) (D : DataW Value) (hown : w.ownsMap Try.prog 9 asIs gm n D) (gf c k : Nat) (hlc : k ≤ c) (hll : k ≤ 1048576)
    (hv : D.atKey (.string nm.data.toList) (.held (.slice none 0 0)) = .held (.slice (some ⟨gf, 0, none⟩) k c)) (hok : has D (.string nm.data.toList) = true) (hc1 : codeAt zs a ≠ 1) (hc4 : codeAt zs a ≠ 4) :
    Calls Try.prog 7 #[.pointer (some ⟨gn, 0, none⟩), .string nm] w fun e w' => e = .returned (.tuple #[.int .i64 (if codeAt zs a = 2 then ((k / 2 : Nat) : Int) else if codeAt zs a = 3 then ((k + 1 : Nat) : Int) else (k : Int)), .int .i64 0]) ∧ AskedBy w gn gm (.slice B zs.length d) (a + 1) w' := by
  have HN := Lib.hid hN
  have HA := Lib.hid (ask_any gn gm B zs d a hm hab nm hnm w hN hB hgm hne n D hown _ hv)
  have hask : askV (codeAt zs a) (has D (.string nm.data.toList)) (.slice (some ⟨gf, 0, none⟩) k c) = .tuple #[.int .i64 (codeAt zs a), .slice (some ⟨gf, 0, none⟩) k c, .int .i64 0] := by
    unfold askV
    rw [if_neg hc1, hok]
    simp [hc4]
  rw [hask] at HA
  clear hN hB hown hv hask hne hok
  generalize codeAt zs a = code at *
  by_cases hc2 : code = 2
  · subst hc2
    go_enter Try.func7, Try.ntmps7
    go_wp2_with fail
    refine (some_call w gn gm _ a HN.out).mono ?_
    rintro e w1 ⟨rfl, rfl⟩
    go_wp2_with fail
    refine HA.out.mono ?_
    rintro e w2 ⟨rfl, hask⟩
    have HK := Lib.hid hask
    clear hask HA HN
    go_wp2_with fail
    go_ret2
    exact ⟨rfl, HK.out⟩
  · have e2 : (code == 2) = false := by simpa using hc2
    by_cases hc3 : code = 3
    · subst hc3
      go_enter Try.func7, Try.ntmps7
      go_wp2_with fail
      refine (some_call w gn gm _ a HN.out).mono ?_
      rintro e w1 ⟨rfl, rfl⟩
      go_wp2_with fail
      refine HA.out.mono ?_
      rintro e w2 ⟨rfl, hask⟩
      have HK := Lib.hid hask
      clear hask HA HN
      go_wp2_with fail
      go_ret2
      exact ⟨rfl, HK.out⟩
    · have e3 : (code == 3) = false := by simpa using hc3
      have hs : (if code = 2 then ((k / 2 : Nat) : Int) else if code = 3 then ((k + 1 : Nat) : Int) else (k : Int)) = k := by rw [if_neg hc2, if_neg hc3]
      rw [hs]
      clear hs hc2 hc3
      go_enter Try.func7, Try.ntmps7
      go_wp2_with fail
      refine (some_call w gn gm _ a HN.out).mono ?_
      rintro e w1 ⟨rfl, rfl⟩
      go_wp2_with fail
      refine HA.out.mono ?_
      rintro e w2 ⟨rfl, hask⟩
      have HK := Lib.hid hask
      clear hask HA HN
      go_wp2_with fail
      go_ret2
      exact ⟨rfl, HK.out⟩
/-- One call of Size. -/
theorem size_net (gn : Nat) (fs : List (ByteArray × List UInt8)) (zs : List Int) (a lo hi : Nat) (hm : zs.length ≤ 1152921504606846976) (hab : a ≤ 1048576) (nm : ByteArray) (hnm : nm.size ≤ maxLen) (w : World) (hN : NetOf w gn fs zs a lo hi) (hh : hi ≤ w.heap.size) :
    Calls Try.prog 7 #[.pointer (some ⟨gn, 0, none⟩), .string nm] w fun e w' =>
      e = .returned (.tuple #[.int .i64 (sizeV fs (codeAt zs a) nm).1, .int .i64 (sizeV fs (codeAt zs a) nm).2]) ∧ w.grownBy w' (some gn) ∧ NetOf w' gn fs zs (a + 1) lo hi := by
  obtain ⟨gm, B, d, n, D, h1, h2, h3, h4, h5, h6, h7, h8, h9, h10⟩ := hN
  have hf := h10 nm
  have hne : ∀ ad, B = some ad → ad.block ≠ gn := fun ad e => (h9 ad e).2.2
  have herr : ∀ (v : Value) (er : Int), er ≠ 0 → D.atKey (.string nm.data.toList) (.held (.slice none 0 0)) = .held v → askV (codeAt zs a) (has D (.string nm.data.toList)) v = .tuple #[.int .i64 (codeAt zs a), .slice none 0 0, .int .i64 er] → sizeV fs (codeAt zs a) nm = (0, er) →
      Calls Try.prog 7 #[.pointer (some ⟨gn, 0, none⟩), .string nm] w fun e w' =>
        e = .returned (.tuple #[.int .i64 (sizeV fs (codeAt zs a) nm).1, .int .i64 (sizeV fs (codeAt zs a) nm).2]) ∧ w.grownBy w' (some gn) ∧ NetOf w' gn fs zs (a + 1) lo hi := by
    intro v er her hv hask hg
    rw [hg]
    refine (size_err gn gm B zs d a hm hab nm hnm w h1 h2 h8 hne n D h3 v hv er her hask).mono ?_
    rintro e w' ⟨rfl, hA⟩
    exact ⟨rfl, hA.1, NetOf.asked hA h2 h3 h4 h5 h6 h7 h8 h9 h10 hh⟩
  by_cases c1 : codeAt zs a = 1
  · cases hl : lookF fs nm with
    | none => rw [hl] at hf; exact herr _ 45 (by omega) hf.2 (by unfold askV; rw [if_pos c1]) (by unfold sizeV; rw [if_pos c1])
    | some l => rw [hl] at hf; obtain ⟨_, gf, c, hv, _⟩ := hf; exact herr _ 45 (by omega) hv (by unfold askV; rw [if_pos c1]) (by unfold sizeV; rw [if_pos c1])
  by_cases c4 : codeAt zs a = 4
  · cases hl : lookF fs nm with
    | none => rw [hl] at hf; exact herr _ 14 (by omega) hf.2 (by unfold askV; rw [if_neg c1, if_pos (.inl c4)]) (by unfold sizeV; rw [if_neg c1, if_pos c4])
    | some l => rw [hl] at hf; obtain ⟨_, gf, c, hv, _⟩ := hf; exact herr _ 14 (by omega) hv (by unfold askV; rw [if_neg c1, if_pos (.inl c4)]) (by unfold sizeV; rw [if_neg c1, if_pos c4])
  cases hl : lookF fs nm with
  | none => rw [hl] at hf; exact herr _ 14 (by omega) hf.2 (by unfold askV; rw [if_neg c1, if_pos (.inr hf.1)]) (by unfold sizeV; rw [if_neg c1, if_neg c4, hl])
  | some l =>
    rw [hl] at hf
    obtain ⟨hok, gf, c, hv, hlc, hll, hgf, hlo, hhi, hr⟩ := hf
    refine (size_ok gn gm B zs d a hm hab nm hnm w h1 h2 h8 hne n D h3 gf c l.length hlc hll hv hok c1 c4).mono ?_
    rintro e w' ⟨rfl, hA⟩
    exact ⟨by unfold sizeV; rw [if_neg c1, if_neg c4, hl], hA.1, NetOf.asked hA h2 h3 h4 h5 h6 h7 h8 h9 h10 hh⟩
end Go.Proofs.Ytbldognffppeiaa
