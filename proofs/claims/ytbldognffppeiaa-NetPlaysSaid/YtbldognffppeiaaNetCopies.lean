/- NetPlays' two lists of files: what stands while they are laid. -/
import Derived.Test.YtbldognffppeiaaNetRefNew
namespace Go.Proofs.Ytbldognffppeiaa
open Go.RowKit Go.Maps
set_option linter.unusedSimpArgs false
set_option linter.unusedVariables false
/-- The files as an argument. -/
def FilesArg (w : World) (A : Option Addr) (fs : List (ByteArray × List UInt8)) : Prop :=
  ∀ (j : Nat) (f : ByteArray × List UInt8), fs[j]? = some f → ∃ g o Aj cj, A = some ⟨g, o, none⟩ ∧ w.cell? ⟨g, o + j * 2, none⟩ = some (.string f.1) ∧ w.cell? ⟨g, o + j * 2 + 1, none⟩ = some (.slice Aj f.2.length cj) ∧ f.2.length ≤ cj ∧ cj ≤ 140737488351232 ∧ (Aj = none → f.2.length = 0 ∧ cj = 0) ∧ f.1.size ≤ maxLen ∧ ReadsB w Aj f.2
def recCells (R : List (ByteArray × Value)) : List Value := R.flatMap fun r => [.string r.1, r.2]
theorem recCells_length (R : List (ByteArray × Value)) : (recCells R).length = R.length * 2 := by
  induction R with
  | nil => rfl
  | cons r R ih => simp [recCells] at ih ⊢; omega
theorem recCells_snoc (R : List (ByteArray × Value)) (nm : ByteArray) (v : Value) : recCells R ++ [.string nm, v] = recCells (R ++ [(nm, v)]) := by simp [recCells]
theorem recCells_at (R : List (ByteArray × Value)) : ∀ (j : Nat) (r : ByteArray × Value), R[j]? = some r → (recCells R)[j * 2]? = some (.string r.1) ∧ (recCells R)[j * 2 + 1]? = some r.2 := by
  induction R with
  | nil => intro j r h; simp at h
  | cons x R ih =>
    intro j r h
    have e : recCells (x :: R) = .string x.1 :: x.2 :: recCells R := by simp [recCells]
    rw [e]
    cases j with
    | zero => simp at h; subst h; exact ⟨rfl, rfl⟩
    | succ j =>
      have := ih j r (by simpa using h)
      rw [show (j + 1) * 2 = j * 2 + 1 + 1 by omega, show j * 2 + 1 + 1 + 1 = (j * 2 + 1) + 1 + 1 by omega]
      simpa using this
/-- Two values do not lie in one block. -/
def Apart (v v' : Value) : Prop := ∀ g, v.ownBlock = some g → v'.ownBlock ≠ some g
structure Copies (w : World) (fs : List (ByteArray × List UInt8)) (iO iL : Nat) (vO vL : Value) (RO RL : List (ByteArray × Value)) (W : World) : Prop where
  below : Below w.heap.size w W
  own : W.ownsRow w.heap.size 41 2 vO iO (recCells RO)
  ref : W.ownsRow w.heap.size 46 2 vL iL (recCells RL)
  lenO : RO.length = iO
  lenL : RL.length = iL
  apart : Apart vO vL
  recO : ∀ (j : Nat) (r : ByteArray × Value), RO[j]? = some r → ∃ f Aj cj, fs[j]? = some f ∧ r = (f.1, .slice Aj f.2.length cj) ∧ f.2.length ≤ cj ∧ cj ≤ maxLen ∧ f.1.size ≤ maxLen ∧ W.ownsRow w.heap.size 5 1 (.slice Aj f.2.length cj) f.2.length (cellsB f.2).toList ∧ Apart (.slice Aj f.2.length cj) vO ∧ Apart (.slice Aj f.2.length cj) vL
  recL : ∀ (j : Nat) (r : ByteArray × Value), RL[j]? = some r → ∃ f Aj cj, fs[j]? = some f ∧ r = (f.1, .slice Aj f.2.length cj) ∧ f.2.length ≤ cj ∧ cj ≤ maxLen ∧ f.1.size ≤ maxLen ∧ ReadsB w Aj f.2
theorem below_grown {w w' : World} (h : Below w.heap.size w w') : w.grownBy w' none := ⟨h.os, h.tape, h.output, h.size, fun k hk _ => h.block k hk⟩
theorem own_kept {w w' : World} {base : Nat} {e : TypeId} {size : Nat} {v : Value} {n : Nat} {xs : List Value} (h : w.ownsRow base e size v n xs) (hb : Below w.heap.size w w') : w'.ownsRow base e size v n xs :=
  h.kept (below_grown hb) (by
    cases hv : v.ownBlock with
    | none => exact .inl rfl
    | some g => exact .inr (fun e => by cases e))
theorem Copies.start (w : World) (fs : List (ByteArray × List UInt8)) : Copies w fs 0 0 (.slice none 0 0) (.slice none 0 0) [] [] w :=
  ⟨Below.refl _ _, World.ownsRow_nil _ _ _ _, World.ownsRow_nil _ _ _ _, rfl, rfl, (fun g h => by cases h), (fun j r h => by simp at h), (fun j r h => by simp at h)⟩
theorem Copies.grown {w : World} {fs : List (ByteArray × List UInt8)} {iO iL : Nat} {vO vL : Value} {RO RL : List (ByteArray × Value)} {W W' : World} (h : Copies w fs iO iL vO vL RO RL W) (hb : Below W.heap.size W W') : Copies w fs iO iL vO vL RO RL W' :=
  ⟨below_step' h.below hb, own_kept h.own hb, own_kept h.ref hb, h.lenO, h.lenL, h.apart, fun j r hr => by
    obtain ⟨f, Aj, cj, h1, h2, h3, h4, h5, h6, h7, h8⟩ := h.recO j r hr
    exact ⟨f, Aj, cj, h1, h2, h3, h4, h5, own_kept h6 hb, h7, h8⟩, h.recL⟩
theorem own_lt {w : World} {base : Nat} {e : TypeId} {size : Nat} {v : Value} {n : Nat} {xs : List Value} (h : w.ownsRow base e size v n xs) {g : Nat} (hg : v.ownBlock = some g) : base ≤ g ∧ g < w.heap.size := h.lt g hg
/-- A file is laid behind the own list. -/
theorem Copies.putO {w : World} {fs : List (ByteArray × List UInt8)} {iO iL : Nat} {vO vL : Value} {RO RL : List (ByteArray × Value)} {W W' : World} (h : Copies w fs iO iL vO vL RO RL W) {f : ByteArray × List UInt8} (hf : fs[iO]? = some f) {A1 : Option Addr} {c1 : Nat} (hc : f.2.length ≤ c1) (hm : c1 ≤ maxLen) (hs : f.1.size ≤ maxLen)
    (hrow : W.ownsRow w.heap.size 5 1 (.slice A1 f.2.length c1) f.2.length (cellsB f.2).toList) (hp1 : Apart (.slice A1 f.2.length c1) vO) (hp2 : Apart (.slice A1 f.2.length c1) vL)
    {g cap H : Nat} (hown : W'.ownsRow w.heap.size 41 2 (.slice (some ⟨g, 0, none⟩) (iO + 1) cap) (iO + 1) (recCells RO ++ [.string f.1, .slice A1 f.2.length c1])) (hg : W.grownBy W' vO.ownBlock) (hat : vO.ownBlock = some g ∨ g = H) (hH : W.heap.size = H) :
    Copies w fs (iO + 1) iL (.slice (some ⟨g, 0, none⟩) (iO + 1) cap) vL (RO ++ [(f.1, .slice A1 f.2.length c1)]) RL W' := by
  have hk : ∀ {v : Value} {base : Nat} {e : TypeId} {size n : Nat} {xs : List Value}, W.ownsRow base e size v n xs → Apart v vO → W'.ownsRow base e size v n xs := fun hr ha => hr.kept hg (by
    cases hv : Value.ownBlock _ with
    | none => exact .inl rfl
    | some x => exact .inr (fun e => ha x hv e.symm))
  have hlt : ∀ {v : Value} {base : Nat} {e : TypeId} {size n : Nat} {xs : List Value}, W.ownsRow base e size v n xs → Apart v vO → Apart v (.slice (some ⟨g, 0, none⟩) (iO + 1) cap) := fun hr ha x hx e => by
    have h1 := own_lt hr hx
    have e2 : g = x := by injection e
    rcases hat with h2 | h2
    · exact ha x hx (by rw [h2, e2])
    · omega
  have hap : Apart vL vO := fun x hx e => h.apart x e hx
  have hb : Below w.heap.size w W' := h.below.trans ⟨hg.os, hg.tape, hg.output, hg.size, fun k hk => hg.block k (Nat.lt_of_lt_of_le hk h.below.size) (fun e => by
    have := own_lt h.own e.symm
    omega)⟩
  refine ⟨hb, by rw [← recCells_snoc]; exact hown, hk h.ref hap, by rw [List.length_append, h.lenO]; rfl, h.lenL, fun x hx e => hlt h.ref hap x e hx, fun j r hr => ?_, h.recL⟩
  by_cases hj : j < iO
  · rw [List.getElem?_append_left (by rw [h.lenO]; exact hj)] at hr
    obtain ⟨f', Aj, cj, h1, h2, h3, h4, h5, h6, h7, h8⟩ := h.recO j r hr
    exact ⟨f', Aj, cj, h1, h2, h3, h4, h5, hk h6 h7, hlt h6 h7, h8⟩
  · rw [List.getElem?_append_right (by rw [h.lenO]; omega), h.lenO] at hr
    have e0 : j - iO = 0 := by
      have := (List.getElem?_eq_some_iff.1 hr).1
      simp at this
      omega
    obtain rfl : j = iO := by omega
    rw [e0] at hr
    simp at hr
    subst hr
    exact ⟨f, A1, c1, hf, rfl, hc, hm, hs, hk hrow hp1, hlt hrow hp1, hp2⟩
/-- A file is laid behind the reference's list. -/
theorem Copies.putL {w : World} {fs : List (ByteArray × List UInt8)} {iO iL : Nat} {vO vL : Value} {RO RL : List (ByteArray × Value)} {W W' : World} (h : Copies w fs iO iL vO vL RO RL W) {f : ByteArray × List UInt8} (hf : fs[iL]? = some f) {A1 : Option Addr} {c1 : Nat} (hc : f.2.length ≤ c1) (hm : c1 ≤ maxLen) (hs : f.1.size ≤ maxLen)
    (hrow : ReadsB w A1 f.2)
    {g cap H : Nat} (hown : W'.ownsRow w.heap.size 46 2 (.slice (some ⟨g, 0, none⟩) (iL + 1) cap) (iL + 1) (recCells RL ++ [.string f.1, .slice A1 f.2.length c1])) (hg : W.grownBy W' vL.ownBlock) (hat : vL.ownBlock = some g ∨ g = H) (hH : W.heap.size = H) :
    Copies w fs iO (iL + 1) vO (.slice (some ⟨g, 0, none⟩) (iL + 1) cap) RO (RL ++ [(f.1, .slice A1 f.2.length c1)]) W' := by
  have hk : ∀ {v : Value} {base : Nat} {e : TypeId} {size n : Nat} {xs : List Value}, W.ownsRow base e size v n xs → Apart v vL → W'.ownsRow base e size v n xs := fun hr ha => hr.kept hg (by
    cases hv : Value.ownBlock _ with
    | none => exact .inl rfl
    | some x => exact .inr (fun e => ha x hv e.symm))
  have hlt : ∀ {v : Value} {base : Nat} {e : TypeId} {size n : Nat} {xs : List Value}, W.ownsRow base e size v n xs → Apart v vL → Apart v (.slice (some ⟨g, 0, none⟩) (iL + 1) cap) := fun hr ha x hx e => by
    have h1 := own_lt hr hx
    have e2 : g = x := by injection e
    rcases hat with h2 | h2
    · exact ha x hx (by rw [h2, e2])
    · omega
  have hb : Below w.heap.size w W' := h.below.trans ⟨hg.os, hg.tape, hg.output, hg.size, fun k hk => hg.block k (Nat.lt_of_lt_of_le hk h.below.size) (fun e => by
    have := own_lt h.ref e.symm
    omega)⟩
  refine ⟨hb, hk h.own h.apart, by rw [← recCells_snoc]; exact hown, h.lenO, by rw [List.length_append, h.lenL]; rfl, hlt h.own h.apart, fun j r hr => ?_, fun j r hr => ?_⟩
  · obtain ⟨f', Aj, cj, h1, h2, h3, h4, h5, h6, h7, h8⟩ := h.recO j r hr
    exact ⟨f', Aj, cj, h1, h2, h3, h4, h5, hk h6 h8, h7, hlt h6 h8⟩
  · by_cases hj : j < iL
    · rw [List.getElem?_append_left (by rw [h.lenL]; exact hj)] at hr
      exact h.recL j r hr
    · rw [List.getElem?_append_right (by rw [h.lenL]; omega), h.lenL] at hr
      have e0 : j - iL = 0 := by
        have := (List.getElem?_eq_some_iff.1 hr).1
        simp at this
        omega
      obtain rfl : j = iL := by omega
      rw [e0] at hr
      simp at hr
      subst hr
      exact ⟨f, A1, c1, hf, rfl, hc, hm, hs, hrow⟩
/-- A step of a drawn region: an append of whatever, nil let in, to what is owned. -/
theorem step_append_any {P : Program} {w : World} {ops : Array Oper} {o : Oper} {a : Act} {K : Act → World → Prop} {Q : Exit → Act → World → Prop} {E : Prop} (hgd : o.guard = none) (s x : Operand) (t : TypeId)
    (ho : o.op = .call { callee := .builtin .append, args := #[s, x], argTypes := #[t, t] })
    (base : Nat) (e : TypeId) (i : TypeInfo) (z : Value) (bytes : Nat) (ht : P.underlying t = some (.slice e)) (hi : P.info? e = some i) (hz : i.zero = some z)
    (hsize : i.size = 1) (hby : i.bytes = bytes) (hzs : z.cells.size = 1)
    (v : Value) (n : Nat) (xs : List Value) (hs : a.eval s = v) (hown : w.ownsRow base e 1 v n xs)
    (A : Option Addr) (m c : Nat) (news : List Value) (hx : a.eval x = .slice A m c) (hl : news.length = m) (hnone : A = none → m = 0 ∧ c = 0) (hnews : ∀ ad, A = some ad → ∀ j u, news[j]? = some u → w.cell? (ad.add j) = some u) (h1 : ∀ u ∈ news, u.oneCell' = true)
    (h63 : n + m ≤ maxLen) (hbytes : (n + m) * bytes ≤ 140737488355328) (hbase : base ≤ w.heap.size)
    (h : ∀ v' w', w'.ownsRow base e 1 v' (n + m) (xs ++ news) → Below base w w' → K (a.put o.dst v') w') : if Region.wanted o (yielded ops a.tmps) = true then Oper.wp P o a w K Q else E := by
  have hw : Region.wanted o (yielded ops a.tmps) = true := by simp [Region.wanted, hgd]
  rw [if_pos hw]
  cases A with
  | none =>
    obtain ⟨rfl, rfl⟩ := hnone rfl
    obtain rfl : news = [] := List.eq_nil_of_length_eq_zero hl
    have hrun := run_append_owned_none (P := P) (w := w) base t o.type e i 1 ht hi v n xs hown
    unfold Oper.wp
    simp [execOp, ho, resolve, invoke, builtin, hs, hx, hrun, Result.andThen]
    exact h v w (by simpa using hown) (Below.refl _ _)
  | some ad =>
    refine wp_append_own w s x t ho base e i z 1 bytes ht hi hz hsize hby hzs (by decide) v n xs hs hown ad m c news hx (by omega) (hnews ad rfl) h1 h63 hbytes hbase ?_
    intro v' w' h2 h3 _
    exact h v' w' h2 ((Below.refl _ w).grown h3 hbase (fun k hk => (hown.lt k hk).1))
/-- What an own row of bytes looks like. -/
theorem row_form {w : World} {base : Nat} {v : Value} {n : Nat} {xs : List Value} (h : w.ownsRow base 5 1 v n xs) : ∃ A c, v = .slice A n c ∧ n ≤ c ∧ c ≤ maxLen ∧ Hid (w.ownsRow base 5 1 (.slice A n c) n xs) := by
  obtain ⟨hl, ⟨rfl, rfl⟩ | ⟨g, cap, cur, rfl, hg, hb, hc, hm, hsz, ht⟩⟩ := h
  · exact ⟨none, 0, rfl, Nat.le_refl _, Nat.zero_le _, hl, .inl ⟨rfl, rfl⟩⟩
  · exact ⟨some ⟨g, 0, none⟩, cap, rfl, hc, hm, hl, .inr ⟨g, cap, cur, rfl, hg, hb, hc, hm, hsz, ht⟩⟩
theorem apart_above {w w' : World} {base base' : Nat} {e e' : TypeId} {s s' : Nat} {v v' : Value} {n n' : Nat} {xs xs' : List Value} (h : w.ownsRow base e s v n xs) (h' : w'.ownsRow base' e' s' v' n' xs') (hb : w'.heap.size ≤ base) : Apart v v' := fun g hg hg' => by
  have h1 := own_lt h hg
  have h2 := own_lt h' hg'
  omega
theorem own_weaken {w : World} {base base' : Nat} {e : TypeId} {s : Nat} {v : Value} {n : Nat} {xs : List Value} (h : w.ownsRow base e s v n xs) (hb : base' ≤ base) : w.ownsRow base' e s v n xs := by
  obtain ⟨hl, h0 | ⟨g, cap, cur, hv, hg, hr⟩⟩ := h
  · exact ⟨hl, .inl h0⟩
  · exact ⟨hl, .inr ⟨g, cap, cur, hv, Nat.le_trans hb hg, hr⟩⟩
theorem news_reads {w W : World} {A : Option Addr} {l : List UInt8} (h : ReadsB w A l) (hb : Below w.heap.size w W) (hA : A = none → l.length = 0) : ∀ ad, A = some ad → ∀ j u, (cellsB l).toList[j]? = some u → W.cell? (ad.add j) = some u := fun ad e j u hj => by
  have hl : 0 < (cellsB l).toList.length := by have := (List.getElem?_eq_some_iff.1 hj).1; omega
  obtain ⟨ad2, e2, h2⟩ := copy_reads (h.below hb) hl
  rw [e] at e2
  injection e2 with e2
  subst e2
  exact h2 j u hj
/-- The own list's step, as the region leaves it. -/
theorem Copies.stepO {w : World} {fs : List (ByteArray × List UInt8)} {i k : Nat} {vO vL : Value} {RO RL : List (ByteArray × Value)} {wr w1 w2 : World} (h0 : Copies w fs i i vO vL RO RL wr) (h1 : Copies w fs i i vO vL RO RL w1) {f : ByteArray × List UInt8} (hf : fs[i]? = some f) (hk : k = f.2.length) {A1 : Option Addr} {c1 : Nat} (hc : k ≤ c1) (hm : c1 ≤ maxLen) (hs : f.1.size ≤ maxLen)
    (hrow : w1.ownsRow wr.heap.size 5 1 (.slice A1 k c1) k (cellsB f.2).toList) {g cap : Nat}
    (hown : w2.ownsRow w.heap.size 41 2 (.slice (some ⟨g, 0, none⟩) (i + 1) cap) (i + 1) (recCells RO ++ [.string f.1, .slice A1 k c1])) (hg : (w1.alloc (.cells #[.string f.1, .slice A1 k c1] 41)).grownBy w2 vO.ownBlock) (hat : vO.ownBlock = some g ∨ g = w1.heap.size + 1) :
    Copies w fs (i + 1) i (.slice (some ⟨g, 0, none⟩) (i + 1) cap) vL (RO ++ [(f.1, .slice A1 k c1)]) RL w2 := by
  subst hk
  have hw := own_weaken hrow h0.below.size
  have h2 := h1.grown ((Below.refl w1.heap.size w1).alloc (Nat.le_refl _) (.cells #[.string f.1, .slice A1 f.2.length c1] 41))
  exact h2.putO hf hc hm hs (hw.alloc _) (apart_above hrow h0.own (Nat.le_refl _)) (apart_above hrow h0.ref (Nat.le_refl _)) hown hg hat (World.size_alloc _ _)
/-- The reference's list's step. -/
theorem Copies.stepL {w : World} {fs : List (ByteArray × List UInt8)} {i k : Nat} {vO vL : Value} {RO RL : List (ByteArray × Value)} {w1 w2 : World} (h1 : Copies w fs (i + 1) i vO vL RO RL w1) {f : ByteArray × List UInt8} (hf : fs[i]? = some f) (hk : k = f.2.length) {A1 : Option Addr} {c1 : Nat} (hc : k ≤ c1) (hm : c1 ≤ maxLen) (hs : f.1.size ≤ maxLen)
    (hrow : ReadsB w A1 f.2) {g cap : Nat}
    (hown : w2.ownsRow w.heap.size 46 2 (.slice (some ⟨g, 0, none⟩) (i + 1) cap) (i + 1) (recCells RL ++ [.string f.1, .slice A1 k c1])) (hg : (w1.alloc (.cells #[.string f.1, .slice A1 k c1] 46)).grownBy w2 vL.ownBlock) (hat : vL.ownBlock = some g ∨ g = w1.heap.size + 1) :
    Copies w fs (i + 1) (i + 1) vO (.slice (some ⟨g, 0, none⟩) (i + 1) cap) RO (RL ++ [(f.1, .slice A1 k c1)]) w2 := by
  subst hk
  have h2 := h1.grown ((Below.refl w1.heap.size w1).alloc (Nat.le_refl _) (.cells #[.string f.1, .slice A1 f.2.length c1] 46))
  exact h2.putL hf hc hm hs hrow hown hg hat (World.size_alloc _ _)
end Go.Proofs.Ytbldognffppeiaa
