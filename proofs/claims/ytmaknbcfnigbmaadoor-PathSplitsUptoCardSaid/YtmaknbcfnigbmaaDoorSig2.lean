/- Plain facts: signs are read back as bits; what is told by signs is told apart. No program in sight. -/
import Derived.Test.YtmaknbcfnigbmaaDoorSig
namespace Go.Proofs.YtmaknbcfnigbmaaDoor.Sig
set_option linter.unusedSimpArgs false

/-- What a sign stands for; 32: it is none. -/
def sv (c : UInt8) : Nat := signs.idxOf c
theorem sv_sgn_fin : ∀ v : Fin 32, sv (sgn v.val) = v.val := by decide
theorem sv_sgn (v : Nat) (h : v < 32) : sv (sgn v) = v := sv_sgn_fin ⟨v, h⟩
theorem sgn_sv (c : UInt8) (h : sv c < 32) : sgn (sv c) = c := by
  unfold sgn sv at *
  have h2 : signs.idxOf c < signs.length := h
  rw [List.getD_eq_getElem?_getD, List.getElem?_eq_getElem h2, Option.getD_some]
  exact List.getElem_idxOf h2
/-- The bits of signs. -/
def decBits (s : List UInt8) : List Bool := s.flatMap fun c => toBits 5 (sv c)
theorem decBits_cons (c : UInt8) (s : List UInt8) : decBits (c :: s) = toBits 5 (sv c) ++ decBits s := rfl
theorem decBits_append (s t : List UInt8) : decBits (s ++ t) = decBits s ++ decBits t := by simp [decBits]
theorem decBits_length (s : List UInt8) : (decBits s).length = 5 * s.length := by
  induction s with
  | nil => rfl
  | cons c s ih => rw [decBits_cons, List.length_append, toBits_length, ih, List.length_cons]; omega
theorem five_back (l : List Bool) (h : l.length = 5) : toBits 5 (sv (sgn (ofBits 0 l))) = l := by
  have hlt := ofBits_lt l
  rw [h] at hlt
  rw [sv_sgn _ hlt, ← h]
  exact toBits_ofBits l
/-- The bits of the signs of bits: these, and no bits behind them. -/
theorem decBits_encB (n : Nat) : ∀ l : List Bool, l.length ≤ n → decBits (encB l) = l ++ List.replicate (5 * ((l.length + 4) / 5) - l.length) false := by
  induction n using Nat.strongRecOn with
  | ind n ih =>
    intro l hl
    match l, hl with
    | [], _ => rfl
    | [a], _ =>
      have h := five_back [a, false, false, false, false] rfl
      show toBits 5 (sv (sgn (ofBits 0 [a, false, false, false, false]))) ++ [] = _
      rw [List.append_nil, h]
      simp [List.replicate]
    | [a, b], _ =>
      have h := five_back [a, b, false, false, false] rfl
      show toBits 5 (sv (sgn (ofBits 0 [a, b, false, false, false]))) ++ [] = _
      rw [List.append_nil, h]
      simp [List.replicate]
    | [a, b, c], _ =>
      have h := five_back [a, b, c, false, false] rfl
      show toBits 5 (sv (sgn (ofBits 0 [a, b, c, false, false]))) ++ [] = _
      rw [List.append_nil, h]
      simp [List.replicate]
    | [a, b, c, d], _ =>
      have h := five_back [a, b, c, d, false] rfl
      show toBits 5 (sv (sgn (ofBits 0 [a, b, c, d, false]))) ++ [] = _
      rw [List.append_nil, h]
      simp [List.replicate]
    | a :: b :: c :: d :: e :: r, hl =>
      simp only [List.length_cons] at hl
      have h1 := ih (n - 5) (by omega) r (by omega)
      have h2 : encB (a :: b :: c :: d :: e :: r) = sgn (ofBits 0 [a, b, c, d, e]) :: encB r := rfl
      rw [h2, decBits_cons, h1, five_back [a, b, c, d, e] rfl, List.length_cons, List.length_cons, List.length_cons, List.length_cons, List.length_cons]
      have e1 : 5 * ((r.length + 1 + 1 + 1 + 1 + 1 + 4) / 5) - (r.length + 1 + 1 + 1 + 1 + 1) = 5 * ((r.length + 4) / 5) - r.length := by omega
      rw [e1]
      rfl
theorem decBits_enc (l : List UInt8) : decBits (enc l) = bitsOf l ++ List.replicate (5 * ((8 * l.length + 4) / 5) - 8 * l.length) false := by
  unfold enc
  rw [decBits_encB _ _ (Nat.le_refl _), bitsOf_length]
theorem byte_inj (a b : UInt8) (h : toBits 8 a.toNat = toBits 8 b.toNat) : a = b := by
  have ha := ofBits_toBits 8 a.toNat
  have hb := ofBits_toBits 8 b.toNat
  rw [h, hb] at ha
  have h1 := a.toNat_lt
  have h2 := b.toNat_lt
  apply UInt8.toNat_inj.mp
  omega
theorem bitsOf_inj : ∀ a b : List UInt8, bitsOf a = bitsOf b → a = b := by
  intro a
  induction a with
  | nil =>
    intro b h
    have := congrArg List.length h
    rw [bitsOf_length, bitsOf_length] at this
    cases b with
    | nil => rfl
    | cons x y => simp at this
  | cons x a ih =>
    intro b h
    cases b with
    | nil =>
      have := congrArg List.length h
      rw [bitsOf_length, bitsOf_length] at this
      simp at this
    | cons y b =>
      rw [bitsOf_cons, bitsOf_cons] at h
      obtain ⟨h1, h2⟩ := List.append_inj h (by rw [toBits_length, toBits_length])
      rw [byte_inj x y h1, ih b h2]
theorem enc_inj (a b : List UInt8) (h : enc a = enc b) : a = b := by
  have hl := congrArg List.length h
  rw [enc_length, enc_length] at hl
  have hd := decBits_enc a
  rw [h, decBits_enc b] at hd
  have hn : a.length = b.length := by omega
  exact (bitsOf_inj b a (List.append_inj hd (by rw [bitsOf_length, bitsOf_length, hn])).1).symm
end Go.Proofs.YtmaknbcfnigbmaaDoor.Sig
