/- Plain law: a derivation's text, read. No program in sight. -/
import Derived.Test.YtbldognffppeiaaDoorAtText
namespace Go.Proofs.YtbldognffppeiaaDoor
open Quo
set_option linter.unusedSimpArgs false
set_option linter.unusedVariables false
/-- A text that must come next, passed by. -/
def eat (w l : List UInt8) : Option (List UInt8) := if w.isPrefixOf l then some (l.drop w.length) else none
theorem eat_iff (w l r : List UInt8) : eat w l = some r ↔ l = w ++ r := by
  unfold eat
  constructor
  · intro h
    split at h
    · rename_i hp
      obtain ⟨t, rfl⟩ := List.isPrefixOf_iff_prefix.1 hp
      simp at h
      rw [h]
    · cases h
  · rintro rfl
    rw [if_pos (List.isPrefixOf_iff_prefix.2 ⟨r, rfl⟩)]
    simp
theorem eat_append (a b l : List UInt8) : eat (a ++ b) l = (eat a l).bind (eat b) := by
  apply Option.ext
  intro r
  rw [eat_iff, Option.bind_eq_some_iff]
  constructor
  · rintro rfl
    exact ⟨b ++ r, (eat_iff _ _ _).2 (List.append_assoc _ _ _), (eat_iff _ _ _).2 rfl⟩
  · rintro ⟨t, h1, h2⟩
    rw [eat_iff] at h1 h2
    rw [h1, h2, List.append_assoc]
def unsign (c : UInt8) : Option UInt8 := if c = 34 then some 34 else if c = 92 then some 92 else if c = 110 then some 10 else if c = 114 then some 13 else if c = 116 then some 9 else none
def rdB : List UInt8 → Option (List UInt8 × List UInt8)
  | [] => none
  | [c] => if c = 34 then some ([], []) else none
  | c :: e :: t => if c = 34 then some ([], e :: t) else if c = 92 then (unsign e).bind fun v => (rdB t).map fun p => (v :: p.1, p.2) else if c = 10 ∨ c = 13 ∨ c = 9 then none else (rdB (e :: t)).map fun p => (c :: p.1, p.2)
theorem unsign_qc (v e : UInt8) (h : qc v = [92, e]) : unsign e = some v := by
  rcases qc_cases v with ⟨h1, _⟩ | ⟨s, h1, h2⟩
  · rw [h1] at h; cases h
  · rw [h1] at h
    injection h with _ h
    injection h with h _
    subst h
    rcases h2 with ⟨rfl, rfl⟩ | ⟨rfl, rfl⟩ | ⟨rfl, rfl⟩ | ⟨rfl, rfl⟩ | ⟨rfl, rfl⟩ <;> rfl
theorem qc_unsign (v e : UInt8) (h : unsign e = some v) : qc v = [92, e] := by
  unfold unsign at h
  repeat' split at h
  all_goals first | (cases h; subst_vars; rfl) | cases h
theorem qc_plain (c : UInt8) (h1 : c ≠ 34) (h2 : c ≠ 92) (h3 : ¬ (c = 10 ∨ c = 13 ∨ c = 9)) : qc c = [c] := by
  rcases qc_cases c with ⟨h, _⟩ | ⟨s, h, h4⟩
  · exact h
  · exfalso
    rcases h4 with ⟨_, rfl⟩ | ⟨_, rfl⟩ | ⟨_, rfl⟩ | ⟨_, rfl⟩ | ⟨_, rfl⟩ <;> simp at h1 h2 h3
theorem rdB_some : ∀ (n : Nat) (l : List UInt8), l.length ≤ n → ∀ x r, rdB l = some (x, r) → l = body x ++ 34 :: r := by
  intro n
  induction n with
  | zero =>
    intro l hl x r h
    cases l with
    | nil => cases h
    | cons c t => simp at hl
  | succ n ih =>
    intro l hl x r h
    match l, hl, h with
    | [], _, h => cases h
    | [c], _, h =>
      unfold rdB at h
      split at h
      · injection h with h; injection h with h1 h2; subst h1 h2; subst_vars; rfl
      · cases h
    | c :: e :: t, hl, h =>
      unfold rdB at h
      split at h
      · injection h with h; injection h with h1 h2; subst h1 h2; subst_vars; rfl
      · split at h
        · obtain ⟨v, hv, h⟩ := Option.bind_eq_some_iff.1 h
          obtain ⟨p, hp, h⟩ := Option.map_eq_some_iff.1 h
          injection h with h1 h2
          subst h1 h2 
          have := ih t (by simp at hl; omega) p.1 p.2 hp
          rw [body_cons, qc_unsign v e hv, this]
          subst_vars
          rfl
        · split at h
          · cases h
          · rename_i h1 h2 h3
            obtain ⟨p, hp, h⟩ := Option.map_eq_some_iff.1 h
            injection h with h4 h5
            subst h4 h5
            have := ih (e :: t) (by simp at hl ⊢; omega) p.1 p.2 hp
            rw [body_cons, qc_plain c h1 h2 h3, this]
            rfl
theorem rdB_body (x r : List UInt8) : rdB (body x ++ 34 :: r) = some (x, r) := by
  induction x with
  | nil =>
    rw [body_nil, List.nil_append]
    cases r with
    | nil => rfl
    | cons e t => rfl
  | cons c x ih =>
    rw [body_cons]
    rcases qc_cases c with ⟨h, h1, h2, h3, h4, h5⟩ | ⟨s, h, hs⟩
    · rw [h]
      obtain ⟨e, t, he⟩ : ∃ e t, body x ++ 34 :: r = e :: t := by
        cases hb : body x with
        | nil => exact ⟨34, r, rfl⟩
        | cons e t => exact ⟨e, t ++ 34 :: r, rfl⟩
      show rdB (c :: (body x ++ 34 :: r)) = _
      rw [he] at ih ⊢
      unfold rdB
      rw [if_neg h1, if_neg h2, if_neg (by simp [h3, h4, h5]), ih]
      rfl
    · have hu := unsign_qc c s h
      rw [h]
      show rdB (92 :: s :: (body x ++ 34 :: r)) = _
      unfold rdB
      rw [if_neg (by decide), if_pos rfl, hu]
      show Option.map _ (rdB _) = _
      rw [ih]
      rfl
theorem rdB_iff (l x r : List UInt8) : rdB l = some (x, r) ↔ l = body x ++ 34 :: r := ⟨fun h => rdB_some _ l (Nat.le_refl _) x r h, fun h => by rw [h]; exact rdB_body x r⟩
def Reads {α : Type} (rd : List UInt8 → Option (α × List UInt8)) (tell : α → List UInt8) : Prop := ∀ l x r, rd l = some (x, r) ↔ l = tell x ++ r
def rdS (l : List UInt8) : Option (ByteArray × List UInt8) := (eat [34] l).bind fun l => (rdB l).map fun p => (tx p.1, p.2)
theorem tx_toList (s : ByteArray) : tx s.data.toList = s := by unfold tx; simp
theorem rdS_reads : Reads rdS quoS := by
  intro l x r
  unfold rdS
  rw [Option.bind_eq_some_iff]
  constructor
  · rintro ⟨t, h1, h2⟩
    rw [eat_iff] at h1
    obtain ⟨p, hp, h2⟩ := Option.map_eq_some_iff.1 h2
    injection h2 with h3 h4
    subst h3 h4
    rw [rdB_iff] at hp
    rw [h1, hp]
    unfold quoS quo tx
    simp
  · intro h
    refine ⟨body x.data.toList ++ 34 :: r, (eat_iff _ _ _).2 (by rw [h]; unfold quoS quo; simp), ?_⟩
    rw [rdB_body]
    show some (tx x.data.toList, r) = _
    rw [tx_toList]
def eachF {α : Type} (rd : List UInt8 → Option (α × List UInt8)) : Nat → Bool → List UInt8 → Option (List α × List UInt8)
  | 0, _, _ => none
  | f + 1, first, l => if [93].isPrefixOf l then some ([], l.drop 1) else ((if first then some l else eat [44] l).bind rd).bind fun p => (eachF rd f false p.2).map fun q => (p.1 :: q.1, q.2)
def eachR {α : Type} (rd : List UInt8 → Option (α × List UInt8)) (l : List UInt8) : Option (List α × List UInt8) := (eat [91] l).bind fun l => eachF rd (l.length + 1) true l
def tailL {α : Type} (tell : α → List UInt8) (l : List α) : List UInt8 := l.flatMap fun x => 44 :: tell x
def elems {α : Type} (tell : α → List UInt8) (first : Bool) (l : List α) : List UInt8 := if first then joinC (l.map tell) else tailL tell l
theorem elems_nil {α : Type} (tell : α → List UInt8) (first : Bool) : elems tell first [] = [] := by cases first <;> rfl
theorem elems_cons {α : Type} (tell : α → List UInt8) (first : Bool) (x : α) (l : List α) : elems tell first (x :: l) = (if first then [] else [44]) ++ tell x ++ elems tell false l := by
  cases first
  · show tailL tell (x :: l) = _
    unfold tailL
    simp [elems, tailL]
  · show Lib.join (tell x :: l.map tell) [44] = _
    rw [Lib.join_cons]
    simp only [elems, tailL, Lib.joinTail]
    simp [List.flatMap_def, Function.comp_def]
theorem eachF_some {α : Type} {rd : List UInt8 → Option (α × List UInt8)} {tell : α → List UInt8} (h : Reads rd tell) : ∀ (f : Nat) (first : Bool) (l : List UInt8) (xs : List α) (r : List UInt8), eachF rd f first l = some (xs, r) → l = elems tell first xs ++ 93 :: r := by
  intro f
  induction f with
  | zero => intro first l xs r e; cases e
  | succ f ih =>
    intro first l xs r e
    unfold eachF at e
    split at e
    · rename_i hp
      obtain ⟨t, rfl⟩ := List.isPrefixOf_iff_prefix.1 hp
      injection e with e; injection e with e1 e2
      subst e1
      simp at e2
      subst e2
      rw [elems_nil]
      rfl
    · obtain ⟨p, hp, e⟩ := Option.bind_eq_some_iff.1 e
      obtain ⟨q, hq, e⟩ := Option.map_eq_some_iff.1 e
      injection e with e1 e2
      subst e1 e2
      obtain ⟨t, ht, hp⟩ := Option.bind_eq_some_iff.1 hp
      have h1 := (h t p.1 p.2).1 hp
      have h2 := ih false p.2 q.1 q.2 hq
      rw [elems_cons, List.append_assoc, ← h2, List.append_assoc, ← h1]
      cases first
      · exact (eat_iff _ _ _).1 ht
      · injection ht
theorem eachF_elems {α : Type} {rd : List UInt8 → Option (α × List UInt8)} {tell : α → List UInt8} (h : Reads rd tell) (hne : ∀ x, ∃ c t, tell x = c :: t ∧ c ≠ 93) : ∀ (xs : List α) (f : Nat) (first : Bool) (r : List UInt8), xs.length < f → eachF rd f first (elems tell first xs ++ 93 :: r) = some (xs, r) := by
  intro xs
  induction xs with
  | nil =>
    intro f first r hf
    obtain ⟨f, rfl⟩ : ∃ g, f = g + 1 := ⟨f - 1, by simp at hf; omega⟩
    rw [elems_nil]
    unfold eachF
    rw [if_pos (show [93].isPrefixOf ([] ++ 93 :: r) = true from by simp [List.isPrefixOf])]
    rfl
  | cons x xs ih =>
    intro f first r hf
    obtain ⟨f, rfl⟩ : ∃ g, f = g + 1 := ⟨f - 1, by simp at hf; omega⟩
    rw [elems_cons]
    obtain ⟨c, t, hc, hc'⟩ := hne x
    unfold eachF
    rw [if_neg]
    · rw [show ((if first = true then some ((if first = true then [] else [44]) ++ tell x ++ elems tell false xs ++ 93 :: r) else eat [44] ((if first = true then [] else [44]) ++ tell x ++ elems tell false xs ++ 93 :: r))) = some (tell x ++ (elems tell false xs ++ 93 :: r)) from by
        cases first
        · show eat [44] ([44] ++ tell x ++ elems tell false xs ++ 93 :: r) = _
          exact (eat_iff _ _ _).2 (by simp only [List.append_assoc])
        · simp]
      show (rd _).bind _ = _
      rw [(h _ x (elems tell false xs ++ 93 :: r)).2 rfl]
      show Option.map _ (eachF rd f false (elems tell false xs ++ 93 :: r)) = _
      rw [ih f false r (by simp at hf; omega)]
      rfl
    · cases first
      · simp [List.isPrefixOf]
      · rw [hc]
        simp [List.isPrefixOf, hc']
        exact fun h => hc' h.symm
theorem elems_length {α : Type} (tell : α → List UInt8) (hne : ∀ x, ∃ c t, tell x = c :: t ∧ c ≠ 93) : ∀ (xs : List α) (first : Bool), xs.length ≤ (elems tell first xs).length := by
  intro xs
  induction xs with
  | nil => intro first; simp
  | cons x xs ih =>
    intro first
    rw [elems_cons]
    obtain ⟨c, t, hc, _⟩ := hne x
    have := ih false
    rw [hc]
    simp
    omega
def listT {α : Type} (tell : α → List UInt8) (l : List α) : List UInt8 := [91] ++ joinC (l.map tell) ++ [93]
theorem eachR_reads {α : Type} {rd : List UInt8 → Option (α × List UInt8)} {tell : α → List UInt8} (h : Reads rd tell) (hne : ∀ x, ∃ c t, tell x = c :: t ∧ c ≠ 93) : Reads (eachR rd) (listT tell) := by
  intro l x r
  unfold eachR
  rw [Option.bind_eq_some_iff]
  constructor
  · rintro ⟨t, h1, h2⟩
    rw [eat_iff] at h1
    have h3 := eachF_some h _ _ _ _ _ h2
    rw [h1, h3]
    unfold listT elems
    simp
  · intro e
    refine ⟨elems tell true x ++ 93 :: r, (eat_iff _ _ _).2 (by rw [e]; unfold listT elems; simp), eachF_elems h hne x _ true r ?_⟩
    have := elems_length tell hne x true
    rw [List.length_append]
    omega
/-- One after the other. -/
def seqE {β : Type} (w : List UInt8) (g : List UInt8 → Option (β × List UInt8)) (l : List UInt8) : Option (β × List UInt8) := (eat w l).bind g
def rdOut (l : List UInt8) : Option ((ByteArray × ByteArray × ByteArray) × List UInt8) :=
  (eat [40] l).bind fun l => (rdS l).bind fun p => (eat [44] p.2).bind fun l => (rdS l).bind fun q => (eat [44] q.2).bind fun l => (rdS l).bind fun s => (eat [41] s.2).map fun l => ((p.1, q.1, s.1), l)
def rdIn (l : List UInt8) : Option ((ByteArray × List ByteArray) × List UInt8) :=
  (eat [40] l).bind fun l => (rdS l).bind fun p => (eat [44] p.2).bind fun l => (eachR rdS l).bind fun q => (eat [41] q.2).map fun l => ((p.1, q.1), l)
def rdEnv (l : List UInt8) : Option ((ByteArray × ByteArray) × List UInt8) :=
  (eat [40] l).bind fun l => (rdS l).bind fun p => (eat [44] p.2).bind fun l => (rdS l).bind fun q => (eat [41] q.2).map fun l => ((p.1, q.1), l)
theorem quoS_head (x : ByteArray) : ∃ c t, quoS x = c :: t ∧ c ≠ 93 := ⟨34, _, rfl, by decide⟩
theorem listT_quoS (l : List ByteArray) : listT quoS l = listD l := rfl
theorem rdOut_reads : Reads rdOut outD := by
  intro l x r
  unfold rdOut
  simp only [Option.bind_eq_some_iff, Option.map_eq_some_iff, eat_iff]
  constructor
  · rintro ⟨l1, h1, p, hp, l2, h2, q, hq, l3, h3, s, hs, l4, h4, e⟩
    injection e with e1 e2
    subst e1 e2
    rw [h1, (rdS_reads _ _ _).1 hp, h2, (rdS_reads _ _ _).1 hq, h3, (rdS_reads _ _ _).1 hs, h4]
    unfold outD
    simp
  · intro e
    refine ⟨quoS x.1 ++ (44 :: (quoS x.2.1 ++ (44 :: (quoS x.2.2 ++ 41 :: r)))), ?_, (x.1, _), (rdS_reads _ _ _).2 rfl, _, rfl, (x.2.1, _), (rdS_reads _ _ _).2 rfl, _, rfl, (x.2.2, _), (rdS_reads _ _ _).2 rfl, _, rfl, rfl⟩
    rw [e]; unfold outD; simp
theorem rdIn_reads : Reads rdIn inD := by
  intro l x r
  unfold rdIn
  simp only [Option.bind_eq_some_iff, Option.map_eq_some_iff, eat_iff]
  constructor
  · rintro ⟨l1, h1, p, hp, l2, h2, q, hq, l3, h3, e⟩
    injection e with e1 e2
    subst e1 e2
    rw [h1, (rdS_reads _ _ _).1 hp, h2, (eachR_reads rdS_reads quoS_head _ _ _).1 hq, h3, listT_quoS]
    unfold inD
    simp
  · intro e
    refine ⟨quoS x.1 ++ (44 :: (listD x.2 ++ (41 :: r))), ?_, (x.1, _), (rdS_reads _ _ _).2 rfl, _, rfl, (x.2, _), (eachR_reads rdS_reads quoS_head _ _ _).2 rfl, _, rfl, rfl⟩
    rw [e]; unfold inD; simp
theorem rdEnv_reads : Reads rdEnv envD := by
  intro l x r
  unfold rdEnv
  simp only [Option.bind_eq_some_iff, Option.map_eq_some_iff, eat_iff]
  constructor
  · rintro ⟨l1, h1, p, hp, l2, h2, q, hq, l3, h3, e⟩
    injection e with e1 e2
    subst e1 e2
    rw [h1, (rdS_reads _ _ _).1 hp, h2, (rdS_reads _ _ _).1 hq, h3]
    unfold envD
    simp
  · intro e
    refine ⟨quoS x.1 ++ (44 :: (quoS x.2 ++ (41 :: r))), ?_, (x.1, _), (rdS_reads _ _ _).2 rfl, _, rfl, (x.2, _), (rdS_reads _ _ _).2 rfl, _, rfl, rfl⟩
    rw [e]; unfold envD; simp
def rdD (l : List UInt8) : Option (Drv × List UInt8) :=
  (eat [68, 101, 114, 105, 118, 101, 40] l).bind fun l => (eachR rdOut l).bind fun p0 => (eat [44] p0.2).bind fun l => (eachR rdIn l).bind fun p1 => (eat [44] p1.2).bind fun l => (eachR rdS l).bind fun p2 => (eat [44] p2.2).bind fun l => (rdS l).bind fun p3 => (eat [44] p3.2).bind fun l => (rdS l).bind fun p4 => (eat [44] p4.2).bind fun l => (eachR rdS l).bind fun p5 => (eat [44] p5.2).bind fun l => (eachR rdEnv l).bind fun p6 => (eat [41] p6.2).map fun l => (⟨p0.1, p1.1, p2.1, p3.1, p4.1, p5.1, p6.1⟩, l)
theorem rdD_reads : Reads rdD textD := by
  have hO := eachR_reads rdOut_reads (fun x => ⟨40, _, rfl, by decide⟩)
  have hI := eachR_reads rdIn_reads (fun x => ⟨40, _, rfl, by decide⟩)
  have hE := eachR_reads rdEnv_reads (fun x => ⟨40, _, rfl, by decide⟩)
  have hS := eachR_reads rdS_reads quoS_head
  have hq := rdS_reads
  intro l x r
  unfold rdD
  simp only [Option.bind_eq_some_iff, Option.map_eq_some_iff, eat_iff]
  constructor
  · rintro ⟨l0, h0, p0, k0, l1, h1, p1, k1, l2, h2, p2, k2, l3, h3, p3, k3, l4, h4, p4, k4, l5, h5, p5, k5, l6, h6, p6, k6, l7, h7, e⟩
    injection e with e1 e2
    subst e1 e2
    rw [h0, (hO _ _ _).1 k0, h1, (hI _ _ _).1 k1, h2, (hS _ _ _).1 k2, h3, (hq _ _ _).1 k3, h4, (hq _ _ _).1 k4, h5, (hS _ _ _).1 k5, h6, (hE _ _ _).1 k6, h7]
    simp only [listT_quoS]
    unfold textD listT
    simp
  · intro e
    refine ⟨listT outD x.outs ++ (44 :: (listT inD x.ins ++ (44 :: (listT quoS x.srcs ++ (44 :: (quoS x.sys ++ (44 :: (quoS x.bld ++ (44 :: (listT quoS x.args ++ (44 :: (listT envD x.env ++ 41 :: r)))))))))))), ?_, (x.outs, _), (hO _ _ _).2 rfl, _, rfl, (x.ins, _), (hI _ _ _).2 rfl, _, rfl, (x.srcs, _), (hS _ _ _).2 rfl, _, rfl, (x.sys, _), (hq _ _ _).2 rfl, _, rfl, (x.bld, _), (hq _ _ _).2 rfl, _, rfl, (x.args, _), (hS _ _ _).2 rfl, _, rfl, (x.env, _), (hE _ _ _).2 rfl, _, rfl, rfl⟩
    rw [e]
    simp only [listT_quoS]
    unfold textD listT
    simp
end Go.Proofs.YtbldognffppeiaaDoor
