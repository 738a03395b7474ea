/- A drawn region of which some operations (fs) may break what the loads rest on: S1 is asked behind every operation, S behind those outside fs. -/
import Derived.Test.YtbldognffppeiaaDoorHeldE
namespace Go.Proofs.YtbldognffppeiaaDoor
open Go
section
variable {P : Program} {ops : Array Oper} {Q : Exit → Act → World → Prop} {md : Region.Mode} {S1 S : World → Prop} {fs : List Nat}
def Lefts (P : Program) (md : Region.Mode) (ops : Array Oper) (Q : Exit → Act → World → Prop) (S1 S : World → Prop) (fs : List Nat) : Nat → Array Bool → Act → World → Prop
  | 0, l, a, w => Region.ready md ops l = [] ∧ Q .normal a w
  | n + 1, l, a, w => (Region.ready md ops l = [] → Q .normal a w) ∧ ∀ i ∈ Region.ready md ops l, wpOp P ops Q i (fun b v => (S1 v ∧ (fs.contains i = false → S v)) ∧ Lefts P md ops Q S1 S fs n (l.setIfInBounds i true) b v) a w
theorem Lefts.any : ∀ (n : Nat) (l : Array Bool) (a : Act) (w : World), Lefts P md ops Q S1 S fs n l a w → wpAny P md ops Q n l a w
  | 0, _, _, _, h => h
  | n + 1, _, _, _, h => ⟨h.1, fun i hi => wpOp_mono (fun b v h' => Lefts.any n _ b v h'.2) (h.2 i hi)⟩
theorem Lefts.firstA {i : Nat} {oi : Oper} {u : Value} (hi : ops[i]? = some oi) (hw : fs.contains i = true) (hsel : ∀ (j : Nat) (o : Oper) cs b, ops[j]? = some o → o.op ≠ .select cs b) (hQ : ∀ c a w, Q (.panic c) (a.put oi.dst u) w → Q (.panic c) a w) (n : Nat) : ∀ (l : Array Bool) (a : Act) (w : World),
    (∀ j oj, ops[j]? = some oj → j ≠ i → l.getD j true = false → (∀ e ∈ oj.after, Region.binds md e = true → e.on ≠ i) → oi.apart ops oj = true) → i ∈ Region.ready md ops l → YieldsIf P ops S1 oi u a → S1 w →
    Lefts P md ops Q S1 S fs n (l.setIfInBounds i true) (a.put oi.dst u) w → Lefts P md ops Q S1 S fs (n + 1) l a w := by
  induction n with
  | zero =>
    intro l a w _ hr hy hS H
    refine ⟨fun h => absurd hr (by rw [h]; simp), fun j hj => ?_⟩
    by_cases hji : j = i
    · subst hji
      exact hy.wpOp hi hS ⟨⟨hS, fun h => by rw [hw] at h; cases h⟩, H⟩
    · exact absurd (ready_mono hj hji) (by rw [H.1]; simp)
  | succ n ih =>
    intro l a w hfree hr hy hS H
    refine ⟨fun h => absurd hr (by rw [h]; simp), fun j hj => ?_⟩
    by_cases hji : j = i
    · subst hji
      exact hy.wpOp hi hS ⟨⟨hS, fun h => by rw [hw] at h; cases h⟩, H⟩
    · obtain ⟨hun, oj, hoj, hall⟩ := mem_ready.1 hj
      have hwait : ∀ e ∈ oj.after, Region.binds md e = true → e.on ≠ i := by
        intro e he hb heq
        have q1 := hall e he hb
        have q0 := (mem_ready.1 hr).1
        rw [heq] at q1
        simp only [Array.getD_eq_getD_getElem?] at q0 q1
        cases hl : l[i]? with
        | none => rw [hl] at q1; cases q1
        | some t => rw [hl] at q0 q1; simp at q0 q1; rw [q0] at q1; cases q1
      refine wpOp_mono (fun b v h3 => ?_) (wpOp_putIf hoj (hfree j oj hoj hji hun hwait) (fun cs b => hsel i oi cs b hi) (fun cs b => hsel j oj cs b hoj) hQ hy (H.2 j (ready_mono hj hji)))
      refine ⟨h3.2.1, ih (l.setIfInBounds j true) b v (fun k ok hk hki hku hkw => hfree k ok hk hki ?_ hkw) (ready_mono hr (Ne.symm hji)) h3.1 h3.2.1.1 ?_⟩
      · by_cases hjk : j = k
        · rw [← hjk]; exact hun
        · rwa [getD_set_ne true hjk] at hku
      · rw [Array.setIfInBounds_comm _ _ hji]
        exact h3.2.2
/-- Does every one of fs that is not done wait for i? -/
def waitAll (md : Region.Mode) (ops : Array Oper) (fs : List Nat) (l : Array Bool) (i : Nat) : Bool := fs.all fun f => l.getD f true || waits md ops f i
theorem Lefts.firstB {i : Nat} {oi : Oper} {u : Value} (hi : ops[i]? = some oi) (hsel : ∀ (j : Nat) (o : Oper) cs b, ops[j]? = some o → o.op ≠ .select cs b) (hQ : ∀ c a w, Q (.panic c) (a.put oi.dst u) w → Q (.panic c) a w) (n : Nat) : ∀ (l : Array Bool) (a : Act) (w : World),
    (∀ f, fs.contains f = true → l.getD f true = true ∨ waits md ops f i = true) →
    (∀ j oj, ops[j]? = some oj → j ≠ i → l.getD j true = false → (∀ e ∈ oj.after, Region.binds md e = true → e.on ≠ i) → oi.apart ops oj = true) → i ∈ Region.ready md ops l → YieldsIf P ops S oi u a → S w → S1 w →
    Lefts P md ops Q S1 S fs n (l.setIfInBounds i true) (a.put oi.dst u) w → Lefts P md ops Q S1 S fs (n + 1) l a w := by
  induction n with
  | zero =>
    intro l a w _ _ hr hy hS hS1 H
    refine ⟨fun h => absurd hr (by rw [h]; simp), fun j hj => ?_⟩
    by_cases hji : j = i
    · subst hji
      exact hy.wpOp hi hS ⟨⟨hS1, fun _ => hS⟩, H⟩
    · exact absurd (ready_mono hj hji) (by rw [H.1]; simp)
  | succ n ih =>
    intro l a w hws hfree hr hy hS hS1 H
    refine ⟨fun h => absurd hr (by rw [h]; simp), fun j hj => ?_⟩
    by_cases hji : j = i
    · subst hji
      exact hy.wpOp hi hS ⟨⟨hS1, fun _ => hS⟩, H⟩
    · obtain ⟨hun, oj, hoj, hall⟩ := mem_ready.1 hj
      have hwait : ∀ e ∈ oj.after, Region.binds md e = true → e.on ≠ i := by
        intro e he hb heq
        have q1 := hall e he hb
        have q0 := (mem_ready.1 hr).1
        rw [heq] at q1
        simp only [Array.getD_eq_getD_getElem?] at q0 q1
        cases hl : l[i]? with
        | none => rw [hl] at q1; cases q1
        | some t => rw [hl] at q0 q1; simp at q0 q1; rw [q0] at q1; cases q1
      have hjf : fs.contains j = false := by
        cases hc : fs.contains j with
        | false => rfl
        | true =>
          rcases hws j hc with h1 | h1
          · simp only [Array.getD_eq_getD_getElem?] at h1 hun
            cases hl : l[j]? with
            | none => rw [hl] at hun; cases hun
            | some t => rw [hl] at h1 hun; simp at h1 hun; rw [h1] at hun; cases hun
          · obtain ⟨o, ho, x, hx, hb, hxi⟩ := waits_spec h1
            rw [hoj] at ho
            injection ho with ho
            subst ho
            exact absurd hxi (hwait x hx hb)
      refine wpOp_mono (fun b v h3 => ?_) (wpOp_putIf hoj (hfree j oj hoj hji hun hwait) (fun cs b => hsel i oi cs b hi) (fun cs b => hsel j oj cs b hoj) hQ hy (H.2 j (ready_mono hj hji)))
      have hSv := h3.2.1.2 hjf
      refine ⟨h3.2.1, ih (l.setIfInBounds j true) b v (fun f hf => ?_) (fun k ok hk hki hku hkw => hfree k ok hk hki ?_ hkw) (ready_mono hr (Ne.symm hji)) h3.1 hSv h3.2.1.1 ?_⟩
      · rcases hws f hf with h1 | h1
        · by_cases hjf' : j = f
          · subst hjf'
            rw [hf] at hjf; cases hjf
          · exact .inl (by rw [getD_set_ne true hjf']; exact h1)
        · exact .inr h1
      · by_cases hjk : j = k
        · rw [← hjk]; exact hun
        · rwa [getD_set_ne true hjk] at hku
      · rw [Array.setIfInBounds_comm _ _ hji]
        exact h3.2.2
theorem waitAll_spec {l : Array Bool} {i : Nat} (h : waitAll md ops fs l i = true) : ∀ f, fs.contains f = true → l.getD f true = true ∨ waits md ops f i = true := fun f hf => by
  have h1 := List.all_eq_true.1 h f (by simpa using hf)
  simpa using h1
/-- One of fs that needs S1 alone. -/
theorem Lefts.takeA {i : Nat} {d : Option Tmp} {op : Go.Op} {ty : TypeId} {pos : String} {af : Array Edge} {g : Option (Nat × Bool)} {u : Value} {n : Nat} {l : Array Bool} {a : Act} {w : World} (hi : ops[i]? = some ⟨d, op, ty, pos, af, g⟩) (hw : fs.contains i = true)
    (hs : Region.noSelect ops = true) (hf : Region.free md ops l i = true) (hr : (Region.ready md ops l).contains i = true) (hQ : ∀ c a w, Q (.panic c) (a.put d u) w → Q (.panic c) a w) (hS : S1 w) (hy : YieldsIf P ops S1 ⟨d, op, ty, pos, af, g⟩ u a)
    (h : Lefts P md ops Q S1 S fs n (l.setIfInBounds i true) (a.put d u) w) : Lefts P md ops Q S1 S fs (n + 1) l a w :=
  Lefts.firstA hi hw (Region.noSelect_spec hs) hQ n l a w (Region.free_spec hi hf) (by simpa using hr) hy hS h
/-- One that all of fs that are not done wait for. -/
theorem Lefts.takeB {i : Nat} {d : Option Tmp} {op : Go.Op} {ty : TypeId} {pos : String} {af : Array Edge} {g : Option (Nat × Bool)} {u : Value} {n : Nat} {l : Array Bool} {a : Act} {w : World} (hi : ops[i]? = some ⟨d, op, ty, pos, af, g⟩) (hw : waitAll md ops fs l i = true)
    (hs : Region.noSelect ops = true) (hf : Region.free md ops l i = true) (hr : (Region.ready md ops l).contains i = true) (hQ : ∀ c a w, Q (.panic c) (a.put d u) w → Q (.panic c) a w) (hS : S w) (hS1 : S1 w) (hy : YieldsIf P ops S ⟨d, op, ty, pos, af, g⟩ u a)
    (h : Lefts P md ops Q S1 S fs n (l.setIfInBounds i true) (a.put d u) w) : Lefts P md ops Q S1 S fs (n + 1) l a w :=
  Lefts.firstB hi (Region.noSelect_spec hs) hQ n l a w (waitAll_spec hw) (Region.free_spec hi hf) (by simpa using hr) hy hS hS1 h
/-- One operation alone may come up. -/
theorem Lefts.one {i : Nat} {o : Oper} {n : Nat} {l : Array Bool} {a : Act} {w : World} (hr : Region.ready md ops l = [i]) (ho : ops[i]? = some o)
    (h : ∀ K' : Act → World → Prop, Shut (∀ b v, (S1 v ∧ (fs.contains i = false → S v)) → Lefts P md ops Q S1 S fs n (l.setIfInBounds i true) b v → K' b v) → if Region.wanted o (yielded ops a.tmps) = true then Oper.wp P o a w K' Q else K' (a.put o.dst undef) w) : Lefts P md ops Q S1 S fs (n + 1) l a w := by
  refine ⟨fun h0 => (by rw [hr] at h0; cases h0), fun j hj => ?_⟩
  rw [hr] at hj
  simp at hj
  subst hj
  exact wpOp_step ho (fun K' hK => h K' (fun b v hS hW => hK b v ⟨hS, hW⟩))
theorem Lefts.done {l : Array Bool} {a : Act} {w : World} (hr : Region.ready md ops l = []) (h : Q .normal a w) : ∀ n, Lefts P md ops Q S1 S fs n l a w
  | 0 => ⟨hr, h⟩
  | _ + 1 => ⟨fun _ => h, by rw [hr]; simp⟩
theorem Lefts.region {id : Nat} {a : Act} {w : World} (S1 S : World → Prop) (fs : List Nat) (hm : P.follows .mixedOrders = true) (hS1 : S1 w.drew) (hS : S w.drew) (h : S1 w.drew → S w.drew → Lefts P .any ops Q S1 S fs ops.size (Array.replicate ops.size false) a w.drew) : (Code.region id ops true).wp P Q a w :=
  wp_region_any hm (Lefts.any _ _ _ _ (h hS1 hS))
end
end Go.Proofs.YtbldognffppeiaaDoor
