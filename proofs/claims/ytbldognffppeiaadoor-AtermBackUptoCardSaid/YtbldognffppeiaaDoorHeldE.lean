/- A drawn region whose last operation (number f) may break what the loads rest on: the condition on the world is asked behind all others alone. -/
import Derived.Test.YtbldognffppeiaaDoorProg
import Derived.Deep.RegionHeld3
namespace Go.Proofs.YtbldognffppeiaaDoor
open Go
section
variable {P : Program} {ops : Array Oper} {Q : Exit → Act → World → Prop} {md : Region.Mode} {S : World → Prop} {f : Nat}
/-- Whatever order is picked, S holds behind each operation but f. -/
def Left (P : Program) (md : Region.Mode) (ops : Array Oper) (Q : Exit → Act → World → Prop) (S : World → Prop) (f : Nat) : Nat → Array Bool → Act → World → Prop
  | 0, l, a, w => Region.ready md ops l = [] ∧ Q .normal a w
  | n + 1, l, a, w => (Region.ready md ops l = [] → Q .normal a w) ∧ ∀ i ∈ Region.ready md ops l, wpOp P ops Q i (fun b v => (i ≠ f → S v) ∧ Left P md ops Q S f n (l.setIfInBounds i true) b v) a w
theorem Left.any : ∀ (n : Nat) (l : Array Bool) (a : Act) (w : World), Left P md ops Q S f n l a w → wpAny P md ops Q n l a w
  | 0, _, _, _, h => h
  | n + 1, _, _, _, h => ⟨h.1, fun i hi => wpOp_mono (fun b v h' => Left.any n _ b v h'.2) (h.2 i hi)⟩
/-- Does operation f wait for i? -/
def waits (md : Region.Mode) (ops : Array Oper) (f i : Nat) : Bool := match ops[f]? with
  | some o => o.after.any fun e => Region.binds md e && e.on == i
  | none => false
theorem waits_spec {i : Nat} (h : waits md ops f i = true) : ∃ o, ops[f]? = some o ∧ ∃ e ∈ o.after, Region.binds md e = true ∧ e.on = i := by
  unfold waits at h
  split at h
  · rename_i o ho
    obtain ⟨k, hk, he⟩ := Array.any_eq_true.1 h
    simp only [Bool.and_eq_true, beq_iff_eq] at he
    exact ⟨o, ho, o.after[k], Array.getElem_mem hk, he.1, he.2⟩
  · cases h
/-- An operation that yields in every world that meets S goes first. -/
theorem Left.first {i : Nat} {oi : Oper} {u : Value} (hi : ops[i]? = some oi) (hw : waits md ops f i = true) (hsel : ∀ (j : Nat) (o : Oper) cs b, ops[j]? = some o → o.op ≠ .select cs b) (hQ : ∀ c a w, Q (.panic c) (a.put oi.dst u) w → Q (.panic c) a w) (n : Nat) : ∀ (l : Array Bool) (a : Act) (w : World),
    (∀ j oj, ops[j]? = some oj → j ≠ i → l.getD j true = false → (∀ e ∈ oj.after, Region.binds md e = true → e.on ≠ i) → oi.apart ops oj = true) → i ∈ Region.ready md ops l → YieldsIf P ops S oi u a → S w →
    Left P md ops Q S f n (l.setIfInBounds i true) (a.put oi.dst u) w → Left P md ops Q S f (n + 1) l a w := by
  induction n with
  | zero =>
    intro l a w _ hr hy hS H
    refine ⟨fun h => absurd hr (by rw [h]; simp), fun j hj => ?_⟩
    by_cases hji : j = i
    · subst hji
      exact hy.wpOp hi hS ⟨fun _ => hS, H⟩
    · exact absurd (ready_mono hj hji) (by rw [H.1]; simp)
  | succ n ih =>
    intro l a w hfree hr hy hS H
    refine ⟨fun h => absurd hr (by rw [h]; simp), fun j hj => ?_⟩
    by_cases hji : j = i
    · subst hji
      exact hy.wpOp hi hS ⟨fun _ => hS, H⟩
    · obtain ⟨hun, oj, hoj, hall⟩ := mem_ready.1 hj
      have hwait : ∀ e ∈ oj.after, Region.binds md e = true → e.on ≠ i := by
        intro e he hb heq
        have q1 := hall e he hb
        have q0 := (mem_ready.1 hr).1
        rw [heq] at q1
        simp only [Array.getD_eq_getD_getElem?] at q0 q1
        cases hl : l[i]? with
        | none => rw [hl] at q1; cases q1
        | some t => rw [hl] at q0 q1; simp at q0 q1; rw [q0] at q1; cases q1
      have hjf : j ≠ f := by
        intro e
        obtain ⟨o, ho, x, hx, hb, hxi⟩ := waits_spec hw
        rw [← e, hoj] at ho
        injection ho with ho
        subst ho
        exact hwait x hx hb hxi
      refine wpOp_mono (fun b v h3 => ?_) (wpOp_putIf hoj (hfree j oj hoj hji hun hwait) (fun cs b => hsel i oi cs b hi) (fun cs b => hsel j oj cs b hoj) hQ hy (H.2 j (ready_mono hj hji)))
      have hSv := h3.2.1 hjf
      refine ⟨fun _ => hSv, ih (l.setIfInBounds j true) b v (fun k ok hk hki hku hkw => hfree k ok hk hki ?_ hkw) (ready_mono hr (Ne.symm hji)) h3.1 hSv ?_⟩
      · by_cases hjk : j = k
        · rw [← hjk]; exact hun
        · rwa [getD_set_ne true hjk] at hku
      · rw [Array.setIfInBounds_comm _ _ hji]
        exact h3.2.2
/-- The same, its side conditions as Bools. -/
theorem Left.take {i : Nat} {d : Option Tmp} {op : Go.Op} {ty : TypeId} {pos : String} {af : Array Edge} {g : Option (Nat × Bool)} {u : Value} {n : Nat} {l : Array Bool} {a : Act} {w : World} (hi : ops[i]? = some ⟨d, op, ty, pos, af, g⟩) (hw : waits md ops f i = true)
    (hs : Region.noSelect ops = true) (hf : Region.free md ops l i = true) (hr : (Region.ready md ops l).contains i = true) (hQ : ∀ c a w, Q (.panic c) (a.put d u) w → Q (.panic c) a w) (hS : S w) (hy : YieldsIf P ops S ⟨d, op, ty, pos, af, g⟩ u a)
    (h : Left P md ops Q S f n (l.setIfInBounds i true) (a.put d u) w) : Left P md ops Q S f (n + 1) l a w :=
  Left.first hi hw (Region.noSelect_spec hs) hQ n l a w (Region.free_spec hi hf) (by simpa using hr) hy hS h
/-- One operation alone may come up. -/
theorem Left.one {i : Nat} {o : Oper} {n : Nat} {l : Array Bool} {a : Act} {w : World} (hr : Region.ready md ops l = [i]) (ho : ops[i]? = some o)
    (h : ∀ K' : Act → World → Prop, Shut (∀ b v, (i ≠ f → S v) → ((i ≠ f → S v) → Left P md ops Q S f n (l.setIfInBounds i true) b v) → K' b v) → if Region.wanted o (yielded ops a.tmps) = true then Oper.wp P o a w K' Q else K' (a.put o.dst undef) w) : Left P md ops Q S f (n + 1) l a w := by
  refine ⟨fun h0 => (by rw [hr] at h0; cases h0), fun j hj => ?_⟩
  rw [hr] at hj
  simp at hj
  subst hj
  exact wpOp_step ho (fun K' hK => h K' (fun b v hS hW => hK b v ⟨hS, hW hS⟩))
theorem Left.done {l : Array Bool} {a : Act} {w : World} (hr : Region.ready md ops l = []) (h : Q .normal a w) : ∀ n, Left P md ops Q S f n l a w
  | 0 => ⟨hr, h⟩
  | _ + 1 => ⟨fun _ => h, by rw [hr]; simp⟩
theorem Left.region {id : Nat} {a : Act} {w : World} (f : Nat) (hm : P.follows .mixedOrders = true) (hS : S w.drew) (h : S w.drew → Left P .any ops Q S f ops.size (Array.replicate ops.size false) a w.drew) : (Code.region id ops true).wp P Q a w :=
  wp_region_any hm (Left.any _ _ _ _ (h hS))
end
end Go.Proofs.YtbldognffppeiaaDoor
