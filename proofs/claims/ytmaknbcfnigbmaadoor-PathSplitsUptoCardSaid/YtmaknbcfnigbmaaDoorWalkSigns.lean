/- BitsSigns, walked: true for any bytes and any text of at most 2^20 bytes. -/
import Derived.Test.YtmaknbcfnigbmaaDoorTails
import Derived.Test.YtmaknbcfnigbmaaDoorWalkBack
import Derived.Test.YtmaknbcfnigbmaaDoorPureRef01E
namespace Go.Proofs.YtmaknbcfnigbmaaDoor
open Go.RowKit Sig Go.Proofs.YtmaknbcfnigbmaaDoorW.PrintWords Go.Proofs.YtmaknbcfnigbmaaDoor.PBitsSigns

/-- Reference's Encode, at bytes that are read. -/
theorem refEncode_str (A : Option Addr) (l : List UInt8) (c : Nat) (w : World) (hr : ReadsB w A l) (hc : l.length ≤ c) (hl : l.length ≤ 1048576) :
    Calls Tryd.prog 16 #[.slice A l.length c] w fun e w' => ∃ s : ByteArray, e = .returned (.string s) ∧ s.toList = enc l ∧ Below w.heap.size w w' := by
  have h := stillroomref01_Encode.calls (14 * l.length + 8) A c (intsB l) ⟨(enc l).toArray⟩ w (by rw [intsB_length]; exact C_of_B hr (by omega)) (by rw [intsB_length]; exact hc) (Ref01.encode_f l (by omega) _ (Nat.le_refl _))
  rw [intsB_length] at h
  exact h.mono fun _ _ ⟨h1, h2⟩ => ⟨_, h1, ByteArray.toList_eq _, h2⟩
/-- What a Decode answers, as a text and a number. -/
def DecText (s : ByteArray) (B : Nat) (W : World) (v : Value) (acc : List UInt8) (e : Int) : Prop :=
  W.ownsRow B 5 1 v acc.length (Lib.byteCells acc) ∧ ((enc acc = s.data.toList ∧ e = 0) ∨ ((∀ b, enc b ≠ s.data.toList) ∧ acc = [] ∧ e = 10))
theorem DecText.same {s : ByteArray} {B B' : Nat} {W W' : World} {v v' : Value} {a a' : List UInt8} {e e' : Int} (h : DecText s B W v a e) (h' : DecText s B' W' v' a' e') : a' = a ∧ e' = e := by
  rcases h.2 with ⟨h1, h2⟩ | ⟨h1, h2, h3⟩ <;> rcases h'.2 with ⟨k1, k2⟩ | ⟨k1, k2, k3⟩
  · exact ⟨enc_inj _ _ (k1.trans h1.symm), k2.trans h2.symm⟩
  · exact absurd h1 (k1 a)
  · exact absurd k1 (h1 a')
  · exact ⟨k2.trans h2.symm, k3.trans h3.symm⟩
theorem nil_own (W : World) (B : Nat) : W.ownsRow B 5 1 (.slice none 0 0) ([] : List UInt8).length (Lib.byteCells []) := ⟨rfl, Or.inl ⟨rfl, rfl⟩⟩
theorem decode_text (s : ByteArray) (w : World) (hT : Tails w) (hs : s.size ≤ 70368744177000) :
    Calls Tryd.prog 14 #[.string s] w fun e w' => ∃ v acc n, e = .returned (.tuple #[v, .int .i64 n]) ∧ DecText s w.heap.size w' v acc n ∧ Below w.heap.size w w' :=
  (decode_any s w hT hs).mono fun e w' ⟨hb, h⟩ => by
    rcases h with ⟨v, acc, henc, rfl, hown⟩ | ⟨hno, rfl⟩
    · exact ⟨v, acc, 0, rfl, ⟨hown, Or.inl ⟨henc, rfl⟩⟩, hb⟩
    · exact ⟨_, [], 10, rfl, ⟨nil_own _ _, Or.inr ⟨hno, rfl, rfl⟩⟩, hb⟩
theorem ints_same (l : List UInt8) : Ref01.ints l = intsB l := rfl
theorem refDecode_text (s : ByteArray) (w : World) (hs : s.size ≤ 70368744177000) :
    Calls Tryd.prog 15 #[.string s] w fun e w' => ∃ v acc n, e = .returned (.tuple #[v, .int .i64 n]) ∧ DecText s w.heap.size w' v acc n ∧ Below w.heap.size w w' := by
  have hlen : s.data.toList.length = s.size := by simp
  obtain ⟨r, hr, hd⟩ := Ref01.decode_f s.data.toList (by omega) _ (Nat.le_refl _)
  have hse : (⟨s.data.toList.toArray⟩ : ByteArray) = s := by simp
  rw [hse] at hr
  obtain ⟨r1, r2⟩ := r
  refine (stillroomref01_Decode.calls _ s r1 r2 w hr).mono fun e w' ⟨v, he, hR, hb⟩ => ?_
  have own : ∀ acc : List UInt8, r1 = intsB acc → w'.ownsRow w.heap.size 5 1 v acc.length (Lib.byteCells acc) := by
    intro acc ha
    subst ha
    have := Kd.own_of_R hR
    rw [intsB_length] at this
    rw [← numsB]
    exact this
  rcases hd with ⟨acc, henc, hrr⟩ | ⟨hno, hrr⟩
  · injection hrr with h1 h2
    exact ⟨v, acc, r2, he, ⟨own acc h1, Or.inl ⟨henc, h2⟩⟩, hb⟩
  · injection hrr with h1 h2
    exact ⟨v, [], r2, he, ⟨own [] h1, Or.inr ⟨hno, rfl, h2⟩⟩, hb⟩
theorem cat_text (l : List UInt8) : (⟨l.toArray⟩ ++ ⟨#[90]⟩ : ByteArray) = ⟨(l ++ [90]).toArray⟩ := by
  apply ByteArray.ext
  simp
theorem info8' : (Tryd.prog.info? 5).map (fun i => (i.zero, i.size, i.bytes)) = some (some (.int .u8 0), 1, 1) := by kernel_rfl

set_option maxHeartbeats 2000000 in
set_option maxRecDepth 100000 in
theorem signs_any (A : Option Addr) (b : List UInt8) (c : Nat) (s : ByteArray) (w : World) (hT : Tails w) (hb : ReadsB w A b) (hc : b.length ≤ c) (lb : b.length ≤ 1048576) (ls : s.size ≤ 1048576) :
    Calls Tryd.prog 3 #[.slice A b.length c, .string s] w fun e w' => e = .returned (.bool true) ∧ Below w.heap.size w w' := by
  have HT := Lib.hid hT
  have HB := Lib.hid hb
  have LB := Lib.hid lb
  have LS := Lib.hid ls
  have HC := Lib.hid hc
  clear hT hb lb ls hc
  have HO0 : Hid ((w.alloc (.cells #[] 5)).ownsRow w.heap.size 5 1 (.slice (some ⟨w.heap.size, 0, none⟩) 0 0) ([] : List Int).length (nums .u8 [])) := ⟨rfl, Or.inr ⟨w.heap.size, 0, #[], rfl, Nat.le_refl _, heap_alloc_new w _, Nat.le_refl _, Nat.zero_le _, rfl, rfl⟩⟩
  have HR0 : Hid (ReadsInt (w.alloc (.cells #[] 5)) .u8 A b.length (intsB b)) := (reads_of_B HB.out (by have := LB.out; omega)).below ((Below.refl _ w).alloc (Nat.le_refl _) _)
  have HW0 : Hid (Below w.heap.size w (w.alloc (.cells #[] 5))) := (Below.refl _ w).alloc (Nat.le_refl _) _
  go_enter Tryd.func3, Tryd.ntmps3
  go_wp2_with (at_builtin; refine print_append_row w.heap.size rfl _ _ 22 5 .u8 1 rfl Tryd.underlying22 info8' (by decide) _ [] (intsB b) A b.length c rfl rfl HO0.out HR0.out HW0.out (by simp) (by have := LB.out; simp; omega) ?_)
  rintro v1 w1 hown1 hw1 - -
  have HO1 := Lib.hid hown1
  have HW1 := Lib.hid hw1
  have hsz1 : w.heap.size ≤ w1.heap.size := hw1.size
  clear hown1 hw1 HO0 HR0 HW0
  go_wp2_with (at_builtin; go_loud (refine print_append_num w.heap.size rfl _ _ 22 5 .u8 1 rfl Tryd.underlying22 info8' (by decide) v1 (intsB b) 90 rfl rfl HO1.out HW1.out hsz1 (by have := LB.out; rw [intsB_length]; omega) ?_))
  rintro v2 w2 hown2 hw2 - -
  have ho2 : w2.ownsRow w.heap.size 5 1 v2 (b ++ [90]).length (Lib.byteCells (b ++ [90])) := by
    have e : intsB b ++ [90] = intsB (b ++ [90]) := by simp [intsB]
    rw [e, numsB] at hown2
    simpa [intsB_length] using hown2
  clear hown2 HO1 HW1
  obtain ⟨A2, c2, rfl, hc2, hr2⟩ := own_readsB ho2
  have HO2 := Lib.hid ho2
  have HW2 := Lib.hid hw2
  have HR2 := Lib.hid hr2
  have hbc : b.length ≤ c2 := by rw [List.length_append] at hc2; simp at hc2; omega
  have hbl : (b ++ [90]).length = b.length + 1 := by simp
  rw [hbl]
  clear ho2 hw2 hr2 hc2
  go_wp2_with fail
  refine (encode_str A2 b c2 w2 (fun hn => ?_) (by have := LB.out; omega)).mono ?_
  · obtain ⟨ad, e, hh⟩ := HR2.out (by simp)
    exact ⟨ad, e, fun j x hj => hh j x (by rw [List.getElem?_append_left (List.getElem?_eq_some_iff.1 hj).1]; exact hj)⟩
  rintro e w3 ⟨t, rfl, ht, hb3⟩
  have HTT := Lib.hid ht
  have HW3 := Lib.hid (below_step' HW2.out hb3)
  have HR3 := Lib.hid (HR2.out.below hb3)
  clear ht hb3 HO2 HR2
  go_wp2_with fail
  refine (decode_text s w3 (HT.out.below HW3.out) (by have := LS.out; omega)).mono ?_
  rintro e w4 ⟨x, acc, ex, rfl, hx, hb4⟩
  have HW4 := Lib.hid (below_step' HW3.out hb4)
  have HR4 := Lib.hid (HR3.out.below hb4)
  have HX4 := Lib.hid hx
  clear hb4 hx HR3
  go_wp2_with fail
  refine (refDecode_text s w4 (by have := LS.out; omega)).mono ?_
  rintro e w5 ⟨y, acc', ey, rfl, hy, hb5⟩
  have HW5 := Lib.hid (below_step' HW4.out hb5)
  have HR5 := Lib.hid (HR4.out.below hb5)
  obtain ⟨rfl, rfl⟩ := HX4.out.same hy
  have HX5 := Lib.hid (pw_own_below HX4.out.1 hb5)
  have HY5 := Lib.hid hy.1
  clear hb5 hy HR4
  go_wp2_with fail
  refine (refEncode_str A b c w5 (HB.out.below HW5.out) HC.out LB.out).mono ?_
  rintro e w6 ⟨u, rfl, hu, hb6⟩
  have htu : (t.toList == u.toList) = true := by rw [HTT.out, hu]; simp
  have HW6 := Lib.hid (below_step' HW5.out hb6)
  obtain ⟨sb, hsb, hsbz⟩ : ∃ sb : ByteArray, sb = ⟨b.toArray⟩ ∧ sb.size = b.length := ⟨_, rfl, rfl⟩
  obtain ⟨si, hsi⟩ : ∃ si : ByteArray, si = ⟨(b ++ [90]).toArray⟩ := ⟨_, rfl⟩
  obtain ⟨sx, hsx⟩ : ∃ sx : ByteArray, sx = ⟨acc'.toArray⟩ := ⟨_, rfl⟩
  have hc1 := text_of_B (P := Tryd.prog) (c := c2) Tryd.underlying22 Tryd.underlying5 Tryd.underlying9 (HR5.out.below hb6) (by have := LB.out; simp; omega)
  rw [← hsi, hbl] at hc1
  have hc2 := text_of_B (P := Tryd.prog) (c := c) Tryd.underlying22 Tryd.underlying5 Tryd.underlying9 (HB.out.below HW6.out) (by have := LB.out; omega)
  rw [← hsb] at hc2
  have hc3 := text_of_own (P := Tryd.prog) Tryd.underlying22 Tryd.underlying5 Tryd.underlying9 (pw_own_below HX5.out hb6)
  have hc4 := text_of_own (P := Tryd.prog) Tryd.underlying22 Tryd.underlying5 Tryd.underlying9 (pw_own_below HY5.out hb6)
  rw [← hsx] at hc3 hc4
  have hcat : sb ++ ⟨#[90]⟩ = si := by rw [hsb, hsi]; exact cat_text b
  have hroom : ¬ (((sb.size + 1 : Nat) : Int) > 9223372036854775807) := by rw [hsbz]; have := LB.out; omega
  clear hu hb6 HR5 HX4 HX5 HY5 hsb hsi hsx
  go_wp2_with fail
  refine (stillroomlaw01_names.calls true w6 rfl).mono ?_
  rintro e w7 ⟨rfl, ⟨nd, rfl⟩⟩
  go_wp2_with fail
  go_ret
  exact ⟨rfl, pw_below_drewN HW6.out _⟩
end Go.Proofs.YtmaknbcfnigbmaaDoor
