/- BitsBack, walked: true for any two rows of at most 2^20 bytes. -/
import Derived.Test.YtmaknbcfnigbmaaDoorWalkEncode
import Derived.Test.YtmaknbcfnigbmaaDoorWalkDecode
import Derived.Test.YtmaknbcfnigbmaaDoorTails
import Derived.Test.YtmaknbcfnigbmaaDoorOrder
import Derived.Test.YtmaknbcfnigbmaaDoorBytesWords
namespace Go.Proofs.YtmaknbcfnigbmaaDoor
open Go.RowKit Sig Go.Proofs.YtmaknbcfnigbmaaDoorW.PrintWords

theorem encode_str (A : Option Addr) (l : List UInt8) (c : Nat) (w : World) (hr : ReadsB w A l) (hl : l.length ≤ 70368744177664) :
    Calls Tryd.prog 13 #[.slice A l.length c] w fun e w' => ∃ s : ByteArray, e = .returned (.string s) ∧ s.toList = enc l ∧ Below w.heap.size w w' :=
  (encode_any A l c w hr hl).mono fun _ _ ⟨h1, h2⟩ => ⟨_, h1, ByteArray.toList_eq _, h2⟩
theorem back_len (n : Nat) (h : n ≤ 1048576) : wrap64 (Int.tdiv (wrap64 (wrap64 (8 * (n : Int)) + 4)) 5) = (((8 * n + 4) / 5 : Nat) : Int) := by
  have : wrap64 (wrap64 (8 * (n : Int)) + 4) = ((8 * n + 4 : Nat) : Int) := by unfold wrap64; omega
  rw [this, Int.tdiv_eq_ediv_of_nonneg (by omega)]; unfold wrap64; omega
theorem size_of_list {s : ByteArray} {l : List UInt8} (h : s.toList = l) : s.size = l.length := by
  rw [← h, ByteArray.toList_eq]; simp

set_option maxHeartbeats 2000000 in
set_option maxRecDepth 100000 in
theorem back_any (A B : Option Addr) (a b : List UInt8) (c c' : Nat) (w : World) (hT : Tails w) (ha : ReadsB w A a) (hb : ReadsB w B b) (la : a.length ≤ 1048576) (lb : b.length ≤ 1048576) :
    Calls Tryd.prog 4 #[.slice A a.length c, .slice B b.length c'] w fun e w' => e = .returned (.bool true) ∧ Below w.heap.size w w' := by
  have HT := Lib.hid hT
  have HA := Lib.hid ha
  have HB := Lib.hid hb
  have LA := Lib.hid la
  have LB := Lib.hid lb
  clear hT ha hb la lb
  go_enter Tryd.func4, Tryd.ntmps4
  go_wp2_with fail
  refine (encode_str A a c w HA.out (by have := LA.out; omega)).mono ?_
  rintro e w1 ⟨s, rfl, hs, hw1⟩
  have HS := Lib.hid hs
  have H1 := Lib.hid hw1
  clear hs hw1
  go_wp2_with fail
  refine (encode_str B b c' w1 (HB.out.below H1.out) (by have := LB.out; omega)).mono ?_
  rintro e w2 ⟨t, rfl, ht, hw2⟩
  have HTT := Lib.hid ht
  have H2 := Lib.hid (below_step' H1.out hw2)
  clear ht hw2
  go_wp2_with fail
  refine (decode_any s w2 (HT.out.below H2.out) (by rw [size_of_list HS.out, enc_length]; have := LA.out; omega)).mono ?_
  rintro e w3 ⟨hw3, hd⟩
  have H3 := Lib.hid (below_step' H2.out hw3)
  clear hw3
  rcases hd with ⟨v, acc, henc, rfl, hown⟩ | ⟨hno, rfl⟩
  · obtain rfl : acc = a := enc_inj acc a (by rw [henc, ← HS.out, ByteArray.toList_eq])
    clear henc
    have hc1 := text_of_own (P := Tryd.prog) Tryd.underlying22 Tryd.underlying5 Tryd.underlying9 hown
    have hc2 := text_of_B (P := Tryd.prog) (c := c) Tryd.underlying22 Tryd.underlying5 Tryd.underlying9 (HA.out.below H3.out) (by have := LA.out; omega)
    have hc3 := text_of_B (P := Tryd.prog) (c := c') Tryd.underlying22 Tryd.underlying5 Tryd.underlying9 (HB.out.below H3.out) (by have := LB.out; omega)
    have hsz : (s.size : Int) = (((8 * acc.length + 4) / 5 : Nat) : Int) := by rw [size_of_list HS.out, enc_length]
    clear hown
    have hne : ((8 * (acc.length : Int) + 4) / 5 != wrap64 ((wrap64 (wrap64 (8 * (acc.length : Int)) + 4)).tdiv 5)) = false := by
      rw [back_len _ LA.out]
      simp only [bne_eq_false_iff_eq]
      omega
    by_cases hab : acc.length = b.length
    · have hlt : Op.bytesLess s.toList t.toList = Op.bytesLess acc b := by rw [HS.out, HTT.out, less_enc acc b hab]
      have heq : ((s.toList == t.toList) == (acc == b)) = true := by rw [HS.out, HTT.out, enc_beq]; simp
      have hab2 : ((acc.length : Int) != (b.length : Int)) = false := by rw [hab]; simp
      have HAB := Lib.hid hab
      clear hab
      go_wp2_with fail
      go_ret
      exact ⟨rfl, H3.out⟩
    · have hab2 : ((acc.length : Int) != (b.length : Int)) = true := by rw [bne_iff_ne]; omega
      go_wp2_with fail
      go_ret
      exact ⟨rfl, H3.out⟩
  · exact absurd (HS.out.symm.trans (ByteArray.toList_eq s)) (by exact hno a)
end Go.Proofs.YtmaknbcfnigbmaaDoor
