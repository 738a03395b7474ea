/- The order of equally long rows of bytes is the order of their signs. Words for bytes: from a reading to the printed contracts' reading, and to the text that is made of them. BitsBack, walked: true for any two rows of at most 2^20 bytes. -/
import Derived.Test.YtmaknbcfnigbmaaDoorPlain
import Derived.Test.YtmaknbcfnigbmaaDoorMem
import Derived.Test.YtmaknbcfnigbmaaDoorWWords
import Derived.Laws.BytesArg
import Derived.Lib.UnsafeStr
import Derived.Test.YtmaknbcfnigbmaaDoorEnc
import Derived.Test.YtmaknbcfnigbmaaDoorDec
namespace Go.Proofs.YtmaknbcfnigbmaaDoor.Sig
open Go

theorem mix (M x y r s : Nat) (hr : r < M) (hs : s < M) : (x * M + r < y * M + s) ↔ (x < y ∨ (x = y ∧ r < s)) := by
  rcases Nat.lt_trichotomy x y with h | h | h
  · have : (x + 1) * M ≤ y * M := Nat.mul_le_mul_right M h
    rw [Nat.succ_mul] at this
    constructor
    · intro _; exact Or.inl h
    · intro _; omega
  · subst h
    constructor
    · intro hh; exact Or.inr ⟨rfl, by omega⟩
    · intro hh; rcases hh with hh | hh <;> omega
  · have : (y + 1) * M ≤ x * M := Nat.mul_le_mul_right M h
    rw [Nat.succ_mul] at this
    constructor
    · intro hh; omega
    · intro hh; omega
theorem mix_dec (M x y r s : Nat) (hr : r < M) (hs : s < M) : decide (x * M + r < y * M + s) = (decide (x < y) || ((x == y) && decide (r < s))) := by
  rw [Bool.eq_iff_iff]
  simp [mix M x y r s hr hs]
theorem less_bytes : ∀ a b : List UInt8, a.length = b.length → Op.bytesLess a b = decide (ofBits 0 (bitsOf a) < ofBits 0 (bitsOf b))
  | [], [], _ => rfl
  | [], _ :: _, h => by simp at h
  | _ :: _, [], h => by simp at h
  | x :: a, y :: b, h => by
    have hl : a.length = b.length := by simpa using h
    have ih := less_bytes a b hl
    have hx : ofBits 0 (toBits 8 x.toNat) = x.toNat := by rw [ofBits_toBits, Nat.mod_eq_of_lt (UInt8.toNat_lt x)]
    have hy : ofBits 0 (toBits 8 y.toNat) = y.toNat := by rw [ofBits_toBits, Nat.mod_eq_of_lt (UInt8.toNat_lt y)]
    have hA := ofBits_lt (bitsOf a)
    have hB := ofBits_lt (bitsOf b)
    have hbl : (bitsOf a).length = (bitsOf b).length := by rw [bitsOf_length, bitsOf_length, hl]
    rw [← hbl] at hB
    have e1 : (decide (x < y)) = decide (x.toNat < y.toNat) := by rw [decide_eq_decide]; exact UInt8.lt_iff_toNat_lt
    have e2 : (x == y) = (x.toNat == y.toNat) := by
      rw [Bool.eq_iff_iff, beq_iff_eq, beq_iff_eq]
      exact ⟨fun h => by rw [h], fun h => UInt8.toNat_inj.1 h⟩
    rw [bitsOf_cons, bitsOf_cons, ofBits_append, ofBits_append, hx, hy, ofBits_eq (bitsOf a), ofBits_eq (bitsOf b), ← hbl, mix_dec _ _ _ _ _ hA hB, ← ih, ← e1, ← e2]
    rfl
theorem sgn_less : ∀ v v' : Fin 32, decide (sgn v.val < sgn v'.val) = decide (v.val < v'.val) ∧ (sgn v.val == sgn v'.val) = (v.val == v'.val) := by decide +kernel
theorem five_lt (l : List Bool) (h : l.length ≤ 5) : ofBits 0 l * 2 ^ (5 - l.length) < 32 := by
  have h1 := ofBits_lt l
  have h2 : ofBits 0 l * 2 ^ (5 - l.length) < 2 ^ l.length * 2 ^ (5 - l.length) := Nat.mul_lt_mul_of_pos_right h1 (Nat.pow_pos (by decide))
  rw [← Nat.pow_add, Nat.add_sub_of_le h] at h2
  exact h2
theorem less_encB (n : Nat) : ∀ x y : List Bool, x.length ≤ n → x.length = y.length → Op.bytesLess (encB x) (encB y) = decide (ofBits 0 x < ofBits 0 y) := by
  induction n using Nat.strongRecOn with
  | ind n ih =>
    intro x y hn hl
    by_cases h0 : x.length = 0
    · obtain rfl : x = [] := List.eq_nil_of_length_eq_zero h0
      obtain rfl : y = [] := List.eq_nil_of_length_eq_zero (by omega)
      rfl
    · by_cases h5 : x.length < 5
      · rw [encB_last x (by omega) h5, encB_last y (by omega) (by omega), ← hl]
        have hs := sgn_less ⟨ofBits 0 x * 2 ^ (5 - x.length), five_lt x (by omega)⟩ ⟨ofBits 0 y * 2 ^ (5 - x.length), by have := five_lt y (by omega); rw [← hl] at this; exact this⟩
        simp only [Op.bytesLess, Bool.and_false, Bool.or_false]
        simp only at hs
        rw [hs.1]
        rw [decide_eq_decide]
        exact Nat.mul_lt_mul_right (Nat.pow_pos (by decide))
      · have ex : x = x.take 5 ++ x.drop 5 := (List.take_append_drop 5 x).symm
        have ey : y = y.take 5 ++ y.drop 5 := (List.take_append_drop 5 y).symm
        have lx : (x.take 5).length = 5 := by rw [List.length_take]; omega
        have ly : (y.take 5).length = 5 := by rw [List.length_take]; omega
        have hd : (x.drop 5).length = (y.drop 5).length := by rw [List.length_drop, List.length_drop, hl]
        have i := ih (n - 5) (by omega) (x.drop 5) (y.drop 5) (by rw [List.length_drop]; omega) hd
        generalize x.take 5 = p at *
        generalize x.drop 5 = q at *
        generalize y.take 5 = p' at *
        generalize y.drop 5 = q' at *
        subst ex ey
        have h1 := ofBits5_lt p lx
        have h2 := ofBits5_lt p' ly
        have hA := ofBits_lt q
        have hB := ofBits_lt q'
        rw [← hd] at hB
        have hs := sgn_less ⟨ofBits 0 p, h1⟩ ⟨ofBits 0 p', h2⟩
        simp only at hs
        rw [encB_five p q lx, encB_five p' q' ly, ofBits_append, ofBits_append, ofBits_eq q, ofBits_eq q', ← hd, mix_dec _ _ _ _ _ hA hB, ← i]
        show (decide (sgn (ofBits 0 p) < sgn (ofBits 0 p')) || ((sgn (ofBits 0 p) == sgn (ofBits 0 p')) && Op.bytesLess (encB q) (encB q'))) = _
        rw [hs.1, hs.2]
theorem less_enc (a b : List UInt8) (h : a.length = b.length) : Op.bytesLess (enc a) (enc b) = Op.bytesLess a b := by
  rw [less_bytes a b h]
  exact less_encB _ _ _ (Nat.le_refl _) (by rw [bitsOf_length, bitsOf_length, h])
theorem enc_beq (a b : List UInt8) : (enc a == enc b) = (a == b) := by
  rw [Bool.eq_iff_iff, beq_iff_eq, beq_iff_eq]
  exact ⟨enc_inj a b, fun h => by rw [h]⟩
end Go.Proofs.YtmaknbcfnigbmaaDoor.Sig

namespace Go.Proofs.YtmaknbcfnigbmaaDoor
open Go.RowKit Go.Proofs.YtmaknbcfnigbmaaDoorW.PrintWords

def intsB (l : List UInt8) : List Int := l.map fun b => (b.toNat : Int)
theorem intsB_length (l : List UInt8) : (intsB l).length = l.length := by simp [intsB]
theorem strOf_intsB (l : List UInt8) : strOfNums (intsB l) = ⟨l.toArray⟩ := by
  unfold strOfNums intsB
  rw [List.map_map]
  congr 2
  conv => rhs; rw [← List.map_id l]
  apply List.map_congr_left
  intro b _
  simp
theorem numsB (l : List UInt8) : nums .u8 (intsB l) = Lib.byteCells l := by simp [nums, intsB, Lib.byteCells]
theorem reads_of_B {w : World} {A : Option Addr} {l : List UInt8} (h : ReadsB w A l) (hl : l.length ≤ 9223372036854775807) : ReadsInt w .u8 A l.length (intsB l) := by
  refine ⟨intsB_length l, hl, fun hn => ?_⟩
  obtain ⟨ad, e, hc⟩ := h hn
  refine ⟨ad, e, fun j hj => ?_⟩
  have := hc j _ (List.getElem?_eq_getElem hj)
  rw [this]
  simp [intsB, hj]
theorem C_of_B {w : World} {A : Option Addr} {l : List UInt8} (h : ReadsB w A l) (hl : l.length ≤ 9223372036854775807) : (Kd.int .u8).C w A l.length (intsB l) := Kd.C_of_reads (d := (0 : Int)) (reads_of_B h hl)
/-- The text of bytes that are read. -/
theorem text_of_B {P : Program} {w : World} {src dst e : TypeId} {A : Option Addr} {c : Nat} {l : List UInt8} (hs : P.underlying src = some (.slice e)) (he : P.underlying e = some (.int .u8)) (hd : P.underlying dst = some .string)
    (h : ReadsB w A l) (hl : l.length ≤ 9223372036854775807) : (convert src dst (.slice A l.length c)).run P w = .ok (.string ⟨l.toArray⟩) w := by
  have := string_of_reads (c := c) hs he hd (reads_of_B h hl)
  rw [strOf_intsB] at this
  exact this
/-- The text of an own row. -/
theorem text_of_own {P : Program} {w : World} {base : Nat} {e' src dst e : TypeId} {v : Value} {l : List UInt8} (hs : P.underlying src = some (.slice e)) (he : P.underlying e = some (.int .u8)) (hd : P.underlying dst = some .string)
    (h : w.ownsRow base e' 1 v l.length (Lib.byteCells l)) : (convert src dst v).run P w = .ok (.string ⟨l.toArray⟩) w := by
  rw [← numsB l] at h
  have := own_string hs he hd h
  rw [strOf_intsB] at this
  exact this
/-- An own row reads as its bytes. -/
theorem own_readsB {w : World} {base : Nat} {e' : TypeId} {v : Value} {l : List UInt8} (h : w.ownsRow base e' 1 v l.length (Lib.byteCells l)) : ∃ A c, v = .slice A l.length c ∧ l.length ≤ c ∧ ReadsB w A l := by
  have hR : ∀ {A : Option Addr} {c : Nat}, v = .slice A l.length c → ReadsB w A l := by
    intro A c hv
    subst hv
    rw [← numsB l] at h
    have hr := own_reads' h
    intro hn
    obtain ⟨ad, e, hc⟩ := hr.2.2 hn
    refine ⟨ad, e, fun j b hj => ?_⟩
    obtain ⟨hlt, he⟩ := List.getElem?_eq_some_iff.1 hj
    rw [hc j hlt]
    subst he
    simp [intsB, hlt]
  rcases h.2 with ⟨h1, h2⟩ | ⟨g, cap, cur, h1, _, _, hcap, _⟩
  · exact ⟨none, 0, by rw [h1, h2], by omega, hR (by rw [h1, h2])⟩
  · exact ⟨_, cap, h1, hcap, hR h1⟩
end Go.Proofs.YtmaknbcfnigbmaaDoor

namespace Go.Proofs.YtmaknbcfnigbmaaDoor
open Go.RowKit Sig Go.Proofs.YtmaknbcfnigbmaaDoorW.PrintWords

theorem encode_str (A : Option Addr) (l : List UInt8) (c : Nat) (w : World) (hr : ReadsB w A l) (hl : l.length ≤ 70368744177664) :
    Calls Tryd.prog 13 #[.slice A l.length c] w fun e w' => ∃ s : ByteArray, e = .returned (.string s) ∧ s.toList = enc l ∧ Below w.heap.size w w' :=
  (encode_any A l c w hr hl).mono fun _ _ ⟨h1, h2⟩ => ⟨_, h1, ByteArray.toList_eq _, h2⟩
theorem back_len (n : Nat) (h : n ≤ 1048576) : wrap64 (Int.tdiv (wrap64 (wrap64 (8 * (n : Int)) + 4)) 5) = (((8 * n + 4) / 5 : Nat) : Int) := by
  have : wrap64 (wrap64 (8 * (n : Int)) + 4) = ((8 * n + 4 : Nat) : Int) := by unfold wrap64; omega
  rw [this, Int.tdiv_eq_ediv_of_nonneg (by omega)]; unfold wrap64; omega
theorem size_of_list {s : ByteArray} {l : List UInt8} (h : s.toList = l) : s.size = l.length := by
  rw [← h, ByteArray.toList_eq]; simp

set_option maxHeartbeats 2000000 in
set_option maxRecDepth 100000 in
theorem back_any (A B : Option Addr) (a b : List UInt8) (c c' : Nat) (w : World) (hT : Tails w) (ha : ReadsB w A a) (hb : ReadsB w B b) (la : a.length ≤ 1048576) (lb : b.length ≤ 1048576) :
    Calls Tryd.prog 4 #[.slice A a.length c, .slice B b.length c'] w fun e w' => e = .returned (.bool true) ∧ Below w.heap.size w w' := by
  have HT := Lib.hid hT
  have HA := Lib.hid ha
  have HB := Lib.hid hb
  have LA := Lib.hid la
  have LB := Lib.hid lb
  clear hT ha hb la lb
  go_enter Tryd.func4, Tryd.ntmps4
  go_wp2_with fail
  refine (encode_str A a c w HA.out (by have := LA.out; omega)).mono ?_
  rintro e w1 ⟨s, rfl, hs, hw1⟩
  have HS := Lib.hid hs
  have H1 := Lib.hid hw1
  clear hs hw1
  go_wp2_with fail
  refine (encode_str B b c' w1 (HB.out.below H1.out) (by have := LB.out; omega)).mono ?_
  rintro e w2 ⟨t, rfl, ht, hw2⟩
  have HTT := Lib.hid ht
  have H2 := Lib.hid (below_step' H1.out hw2)
  clear ht hw2
  go_wp2_with fail
  refine (decode_any s w2 (HT.out.below H2.out) (by rw [size_of_list HS.out, enc_length]; have := LA.out; omega)).mono ?_
  rintro e w3 ⟨hw3, hd⟩
  have H3 := Lib.hid (below_step' H2.out hw3)
  clear hw3
  rcases hd with ⟨v, acc, henc, rfl, hown⟩ | ⟨hno, rfl⟩
  · obtain rfl : acc = a := enc_inj acc a (by rw [henc, ← HS.out, ByteArray.toList_eq])
    clear henc
    have hc1 := text_of_own (P := Tryd.prog) Tryd.underlying22 Tryd.underlying5 Tryd.underlying9 hown
    have hc2 := text_of_B (P := Tryd.prog) (c := c) Tryd.underlying22 Tryd.underlying5 Tryd.underlying9 (HA.out.below H3.out) (by have := LA.out; omega)
    have hc3 := text_of_B (P := Tryd.prog) (c := c') Tryd.underlying22 Tryd.underlying5 Tryd.underlying9 (HB.out.below H3.out) (by have := LB.out; omega)
    have hsz : (s.size : Int) = (((8 * acc.length + 4) / 5 : Nat) : Int) := by rw [size_of_list HS.out, enc_length]
    clear hown
    have hne : ((8 * (acc.length : Int) + 4) / 5 != wrap64 ((wrap64 (wrap64 (8 * (acc.length : Int)) + 4)).tdiv 5)) = false := by
      rw [back_len _ LA.out]
      simp only [bne_eq_false_iff_eq]
      omega
    by_cases hab : acc.length = b.length
    · have hlt : Op.bytesLess s.toList t.toList = Op.bytesLess acc b := by rw [HS.out, HTT.out, less_enc acc b hab]
      have heq : ((s.toList == t.toList) == (acc == b)) = true := by rw [HS.out, HTT.out, enc_beq]; simp
      have hab2 : ((acc.length : Int) != (b.length : Int)) = false := by rw [hab]; simp
      have HAB := Lib.hid hab
      clear hab
      go_wp2_with fail
      go_ret
      exact ⟨rfl, H3.out⟩
    · have hab2 : ((acc.length : Int) != (b.length : Int)) = true := by rw [bne_iff_ne]; omega
      go_wp2_with fail
      go_ret
      exact ⟨rfl, H3.out⟩
  · exact absurd (HS.out.symm.trans (ByteArray.toList_eq s)) (by exact hno a)
end Go.Proofs.YtmaknbcfnigbmaaDoor
