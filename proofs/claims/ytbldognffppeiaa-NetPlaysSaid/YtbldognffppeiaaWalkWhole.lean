/- NetWhole, walked. -/
import Derived.Test.YtbldognffppeiaaWalkFaults
namespace Go.Proofs.Ytbldognffppeiaa
open Go.RowKit Go.Maps
set_option linter.unusedSimpArgs false
set_option linter.unusedVariables false
theorem i64_and255 (n : Int) : bits .and .i64 n 255 = n % 256 := by
  have h255 : (BitVec.ofInt 64 255).toNat = 2 ^ 8 - 1 := by decide
  have key : (BitVec.ofInt 64 n &&& BitVec.ofInt 64 255).toNat = (n % ((2 ^ 64 : Nat) : Int)).toNat % 2 ^ 8 := by
    rw [BitVec.toNat_and, BitVec.toNat_ofInt, h255, Nat.and_two_pow_sub_one_eq_mod]
  show IntKind.i64.wrap ((BitVec.ofInt 64 n &&& BitVec.ofInt 64 255).toNat : Nat) = n % 256
  rw [key, IntKind.wrap_i64]
  omega
/-- An own row of bytes reads as its bytes. -/
theorem own_reads {w : World} {base : Nat} {v : Value} {l : List UInt8} (h : w.ownsRow base 5 1 v l.length (cellsB l).toList) : ∃ A c, v = .slice A l.length c ∧ l.length ≤ c ∧ ReadsB w A l := by
  obtain ⟨hl, ⟨rfl, hn⟩ | ⟨g, cap, cur, rfl, hg, hb, hc, hm, hsz, ht⟩⟩ := h
  · obtain rfl : l = [] := List.eq_nil_of_length_eq_zero hn
    exact ⟨none, 0, rfl, Nat.le_refl _, ReadsB.nil _ _⟩
  · refine ⟨some ⟨g, 0, none⟩, cap, rfl, hc, fun hn => ⟨_, rfl, fun j b hj => ?_⟩⟩
    have e : (cellsB l).toList[j]? = some (.int .u8 (b.toNat : Int)) := by simp [cellsB, hj]
    rw [← ht, List.getElem?_take] at e
    split at e
    · rw [Addr.add_mid, Nat.zero_add, cell_of_row w g j cur 5 (0, 0) hb]
      simpa using e
    · cases e
/-- The name of the other file. -/
def nmG : ByteArray := ⟨#[103]⟩
theorem lookF_two (b : List UInt8) : lookF [(nmF, b), (nmG, [])] nmF = some b := by simp [lookF]
theorem dup_two (b : List UInt8) : ¬ Dup [(nmF, b), (nmG, [])] := by
  rintro ⟨k, g, hg, hne⟩
  have hk : k = 0 ∨ k = 1 := by
    have := (List.getElem?_eq_some_iff.1 hg).1
    simp at this
    omega
  rcases hk with rfl | rfl
  · exact hne rfl
  · simp at hg
    subst hg
    apply hne
    show (if nmF = nmG then some b else none) = none
    rw [if_neg (by decide)]
theorem anyBig_two (b : List UInt8) (h : b.length ≤ 1048576) : anyBig [(nmF, b), (nmG, [])] = false := by
  simp [anyBig]; omega
theorem files_two {w : World} {g : Nat} {A : Option Addr} {b : List UInt8} {c : Nat} (h : Blk w g 41 #[.string nmF, .slice A b.length c, .string nmG, .slice none 0 0]) (hc : b.length ≤ c) (hm : c ≤ maxLen) (hr : ReadsB w A b) : FilesIn w (some ⟨g, 0, none⟩) [(nmF, b), (nmG, [])] := fun j f hj => by
  have hk : j = 0 ∨ j = 1 := by
    have := (List.getElem?_eq_some_iff.1 hj).1
    simp at this
    omega
  rcases hk with rfl | rfl
  · simp at hj
    subst hj
    exact ⟨g, A, c, rfl, h.cell 0, h.cell 1, hc, hm, by show nmF.size ≤ maxLen; unfold nmF maxLen; decide, hr⟩
  · simp at hj
    subst hj
    exact ⟨g, none, 0, rfl, h.cell 2, h.cell 3, Nat.le_refl _, Nat.zero_le _, by show nmG.size ≤ maxLen; unfold nmG maxLen; decide, ReadsB.nil _ _⟩
/-- A network of two files and no faults. -/
def TwoNew (b : List UInt8) (w : World) (e : Ending) (w' : World) : Prop := ∃ gn hi, e = .returned (.tuple #[.pointer (some ⟨gn, 0, none⟩), .int .i64 0]) ∧ NetOf w' gn [(nmF, b), (nmG, [])] [] 0 w.heap.size hi ∧ hi ≤ w'.heap.size ∧ Below w.heap.size w w'
theorem two_new {b : List UInt8} {w W w' : World} {e : Ending} (hb : b.length ≤ 1048576) (hw : Below w.heap.size w W) (h : NewSays W [(nmF, b), (nmG, [])] [] e w' ∧ Below W.heap.size W w') : TwoNew b w e w' := by
  obtain ⟨h | h | h, hb2⟩ := h
  · obtain ⟨h | h, _⟩ := h
    · simp at h
    · rw [anyBig_two b hb] at h; cases h
  · exact absurd h.2.2.1 (dup_two _)
  · obtain ⟨_, _, _, gn, rfl, hN⟩ := h
    exact ⟨gn, _, rfl, hN.lower hw.size, Nat.le_refl _, below_step' hw hb2⟩
theorem get_two (gn : Nat) (b : List UInt8) (k p a lo hi : Nat) (hk : k ≤ 1048576) (hp : 1 ≤ p) (hp2 : p ≤ 65536) (ha : a ≤ 1048576) (w : World) (hN : NetOf w gn [(nmF, b), (nmG, [])] [] a lo hi) (hh : hi ≤ w.heap.size) :
    Calls Try.prog 8 #[.pointer (some ⟨gn, 0, none⟩), .string ⟨#[102]⟩, .int .i64 k, .int .i64 p] w fun e w' =>
      ∃ A, e = .returned (.tuple #[.slice A (min p (b.length - k)) (min p (b.length - k)), .int .i64 0]) ∧ ReadsB w' A ((b.drop k).take (min p (b.length - k))) ∧ NetOf w' gn [(nmF, b), (nmG, [])] [] (a + 1) lo hi ∧ hi ≤ w'.heap.size ∧ w.grownBy w' (some gn) := by
  have h := get_net gn [(nmF, b), (nmG, [])] [] a lo hi (by simp) ha nmF (by unfold nmF maxLen; decide) k p (by omega) hp hp2 w hN hh
  have e : getV [(nmF, b), (nmG, [])] (codeAt [] a) nmF k p = ((b.drop k).take (min p (b.length - k)), 0) := by
    have : codeAt [] a = 0 := by simp [codeAt]
    rw [this]
    unfold getV
    rw [if_neg (by decide), if_neg (by decide), lookF_two]
    rfl
  rw [e] at h
  have hl : ((b.drop k).take (min p (b.length - k))).length = min p (b.length - k) := by rw [List.length_take, List.length_drop]; omega
  refine Calls.mono h ?_
  rintro e w' ⟨A, rfl, h1, h2, h3⟩
  rw [hl]
  exact ⟨A, rfl, ownB_reads h1, h3, Nat.le_trans hh h2.size, h2⟩
theorem size_two (gn : Nat) (b : List UInt8) (a lo hi : Nat) (ha : a ≤ 1048576) (w : World) (hN : NetOf w gn [(nmF, b), (nmG, [])] [] a lo hi) (hh : hi ≤ w.heap.size) :
    Calls Try.prog 7 #[.pointer (some ⟨gn, 0, none⟩), .string ⟨#[102]⟩] w fun e w' =>
      e = .returned (.tuple #[.int .i64 (b.length : Int), .int .i64 0]) ∧ NetOf w' gn [(nmF, b), (nmG, [])] [] (a + 1) lo hi ∧ hi ≤ w'.heap.size ∧ w.grownBy w' (some gn) := by
  have h := size_net gn [(nmF, b), (nmG, [])] [] a lo hi (by simp) ha nmF (by unfold nmF maxLen; decide) w hN hh
  have e : sizeV [(nmF, b), (nmG, [])] (codeAt [] a) nmF = ((b.length : Int), 0) := by
    have : codeAt [] a = 0 := by simp [codeAt]
    rw [this]
    unfold sizeV
    rw [if_neg (by decide), if_neg (by decide), lookF_two]
    rfl
  rw [e] at h
  refine Calls.mono h ?_
  rintro e w' ⟨rfl, h2, h3⟩
  exact ⟨rfl, h3, Nat.le_trans hh h2.size, h2⟩
theorem grow_row {w : World} {base : Nat} {v : Value} {b X : List UInt8} {i r : Nat} (hX : X = (b.drop i).take r) (hr : i + r ≤ b.length) (h : w.ownsRow base 5 1 v (i + r) ((cellsB (b.take i)).toList ++ (cellsB X).toList)) :
    ∃ A c, v = .slice A (i + r) c ∧ Hid (w.ownsRow base 5 1 (.slice A (i + r) c) (i + r) (cellsB (b.take (i + r))).toList) := by
  have e : (cellsB (b.take i)).toList ++ (cellsB X).toList = (cellsB (b.take (i + r))).toList := by
    rw [hX, List.take_add]
    simp [cellsB]
  have hl : (b.take (i + r)).length = i + r := by rw [List.length_take]; omega
  rw [e] at h
  have h2 : w.ownsRow base 5 1 v (b.take (i + r)).length (cellsB (b.take (i + r))).toList := by rw [hl]; exact h
  obtain ⟨A, c, rfl, _⟩ := own_reads h2
  rw [hl] at h ⊢
  exact ⟨A, c, rfl, h⟩
set_option maxHeartbeats 4000000 in
set_option maxRecDepth 100000 in
theorem whole_any (A : Option Addr) (b : List UInt8) (c : Nat) (hc : b.length ≤ c) (hcm : c ≤ maxLen) (p : Int) (w : World) (hr : ReadsB w A b) :
    Calls Try.prog 6 #[.slice A b.length c, .int .i64 p] w fun e w' => e = .returned (.bool true) ∧ Below w.heap.size w w' := by
  obtain ⟨b', hb'⟩ : ∃ b', Hid (b' = b.take 4000) := ⟨_, rfl⟩
  obtain ⟨n, hn⟩ : ∃ n, Hid (n = b.length) := ⟨_, rfl⟩
  have HR : Hid (ReadsB w A b') := by rw [hb'.out]; exact reads_take hr 4000
  have hbl : b'.length = min 4000 n := by rw [hb'.out, List.length_take, hn.out]
  have hHB : 4000 < n → ∃ ad, A = some ad := fun h => by
    obtain ⟨ad, e, _⟩ := hr (by have := hn.out; omega)
    exact ⟨ad, e⟩
  rw [← hn.out]
  rw [← hn.out] at hc
  unfold maxLen at hcm
  have HHB := Lib.hid hHB
  have hbl1 : Hid (4000 < n → b'.length = 4000) := fun _ => by omega
  have hbl2 : Hid (n ≤ 4000 → b'.length = n) := fun _ => by omega
  have hbl3 : b'.length ≤ 4000 := by omega
  obtain ⟨q, hq⟩ : ∃ q : Nat, Hid (p % 256 = (q : Int)) := ⟨(p % 256).toNat, by show p % 256 = _; omega⟩
  have hq2 : q < 256 := by have := hq.out; omega
  have hand : bits .and .i64 p 255 = (q : Int) := (i64_and255 p).trans hq.out
  clear hr hHB hbl hn hb' hq
  go_enter Try.func6, Try.ntmps6
  go_upto_if 15 with (fail)
  go_cut [0] (fun t0 wx => wx = w ∧ ∃ c', t0 = .slice A b'.length c' ∧ b'.length ≤ c' ∧ c' ≤ 9223372036854775807)
  case first =>
    by_cases h1 : 4000 < n
    · have c1 : (4000 : Int) < (n : Int) := by omega
      obtain ⟨ad, rfl⟩ := HHB.out h1
      go_wp2_with fail
      all_goals go_meet
      all_goals exact ⟨rfl, _, by rw [hbl1.out h1], by first | omega | (rw [hbl1.out h1]; omega), by omega⟩
    · have c1 : ¬ (4000 : Int) < (n : Int) := by omega
      go_wp2_with fail
      go_meet
      exact ⟨rfl, _, by rw [hbl2.out (by omega)], by rw [hbl2.out (by omega)]; exact hc, by omega⟩
  case rest =>
    obtain ⟨rfl, c', rfl, hc', hcm'⟩ := hcut
    clear hbl1 hbl2 HHB
    obtain ⟨k, hk⟩ : ∃ k, Hid (k = b'.length) := ⟨_, rfl⟩
    rw [← hk.out] at hc' hbl3 ⊢
    go_upto_region 3 with (fail)
    go_cut [1] (fun t1 wx => wx = wc ∧ ∃ pc : Nat, t1 = .int .i64 pc ∧ 1 ≤ pc ∧ pc ≤ 256)
    case first =>
      go_wp2_with fail
      go_meet
      exact ⟨rfl, 1 + q, by first | rfl | (simp; done) | go_num, by omega, by omega⟩
    case rest =>
      obtain ⟨rfl, pc, rfl, hpc1, hpc2⟩ := hcut
      clear hand
      go_upto_region 4 with (fail)
      have HB1 := Lib.hid (Blk.new wc 41 #[.string nmF, .slice A k c', .string nmG, .slice none 0 0])
      have HW1 := Lib.hid ((Below.refl wc.heap.size wc).alloc (Nat.le_refl _) (.cells #[.string nmF, .slice A k c', .string nmG, .slice none 0 0] 41))
      have HR1 := Lib.hid (HR.out.below HW1.out)
      have HNEW : Hid (Calls Try.prog 10 #[.slice (some ⟨wc.heap.size, 0, none⟩) 2 2, .slice none 0 0] (wc.alloc (.cells #[.string nmF, .slice A k c', .string nmG, .slice none 0 0] 41)) fun e w' => TwoNew b' wc e w') := by
        have h := new_net (some ⟨wc.heap.size, 0, none⟩) [(nmF, b'), (nmG, [])] 2 (by unfold maxLen; simp) none [] 0 (by simp) (fun h => ⟨rfl, rfl⟩) (wc.alloc (.cells #[.string nmF, .slice A k c', .string nmG, .slice none 0 0] 41))
          (files_two (c := c') (by rw [← hk.out]; exact HB1.out) (by rw [← hk.out]; exact hc') (by unfold maxLen; omega) HR1.out) (fun j z hj => by simp at hj)
        exact h.mono fun e w' h => two_new (by rw [← hk.out]; omega) HW1.out h
      clear HB1 HW1 HR1
      go_upto_region 5 with (first | (go_at_call 10; refine HNEW.out.mono ?_; rintro e w2 ⟨gn, hi, rfl, hN, hhi, hb2⟩; have HNT := Lib.hid hN; have HHI := Lib.hid hhi; have HB2 := Lib.hid hb2; clear hN hhi hb2) | fail)
      clear HNEW
      have HSZ : Hid (Calls Try.prog 7 #[.pointer (some ⟨gn, 0, none⟩), .string ⟨#[102]⟩] w2 fun e w' =>
        e = .returned (.tuple #[.int .i64 (k : Int), .int .i64 0]) ∧ NetOf w' gn [(nmF, b'), (nmG, [])] [] 1 wc.heap.size hi ∧ hi ≤ w'.heap.size ∧ w2.grownBy w' (some gn)) := by
        rw [hk.out]
        exact size_two gn b' 0 wc.heap.size hi (by omega) w2 HNT.out HHI.out
      go_upto_region 10 with (first | (go_at_call 7; refine HSZ.out.mono ?_; rintro e w3 ⟨rfl, hN, hhi, hg3⟩; have HNT3 := Lib.hid hN; have HHI3 := Lib.hid hhi; have HG3 := Lib.hid hg3; clear hN hhi hg3) | fail)
      go_wp2_with fail
      have hbd := HNT3.out.bounds
      have HB3 : Hid (Below wc.heap.size wc w3) := HB2.out.trans (grown_below HG3.out hbd.1 HB2.out.size)
      obtain ⟨i0, hi0, hz0, hz1, hz2⟩ := info_parts info8'
      have H0 := Lib.hid hz0
      have H1 := Lib.hid hz1
      have H2 := Lib.hid hz2
      have HII := Lib.hid hi0
      clear hi0 hz0 hz1 hz2 HNT HHI HB2 HG3 HSZ
      go_loopw [8, 9] (fun t8 t9 wr => ∃ (i cnt c8 : Nat) (A8 : Option Addr), t8 = .slice A8 i c8 ∧ Hid (wr.ownsRow hi 5 1 (.slice A8 i c8) i (cellsB (b'.take i)).toList) ∧ t9 = .int .i64 cnt ∧ 1 ≤ cnt ∧ cnt ≤ i + 1 ∧ i ≤ k ∧ Hid (NetOf wr gn [(nmF, b'), (nmG, [])] [] cnt wc.heap.size hi) ∧ Hid (hi ≤ wr.heap.size) ∧ Hid (Below wc.heap.size wc wr)) (fun t8 _ _ => match t8 with | .slice _ n _ => k - n | _ => 0)
      case atStart => exact ⟨0, 1, 0, none, rfl, World.ownsRow_nil _ _ _ _, rfl, by omega, by omega, by omega, HNT3, HHI3, HB3⟩
      case round =>
        clear HNT3 HHI3 HB3
        obtain ⟨i, cnt, c8, A8, rfl, HO, rfl, hcnt1, hcnt2, hik, HNT, HHI, HB⟩ := hrel
        by_cases hlt : i < k
        · obtain ⟨r, hr⟩ : ∃ r, Hid (r = min pc (k - i)) := ⟨_, rfl⟩
          have hr1 : 1 ≤ r := by have := hr.out; omega
          have hr2 : i + r ≤ k := by have := hr.out; omega
          obtain ⟨X, hX⟩ : ∃ X, Hid (X = (b'.drop i).take r) := ⟨_, rfl⟩
          have hXl : Hid (X.length = r) := by rw [Hid, hX.out, List.length_take, List.length_drop, ← hk.out]; omega
          have HG : Hid (Calls Try.prog 8 #[.pointer (some ⟨gn, 0, none⟩), .string ⟨#[102]⟩, .int .i64 i, .int .i64 pc] wr fun e w' =>
            ∃ A, e = .returned (.tuple #[.slice A r r, .int .i64 0]) ∧ ReadsB w' A X ∧ NetOf w' gn [(nmF, b'), (nmG, [])] [] (cnt + 1) wc.heap.size hi ∧ hi ≤ w'.heap.size ∧ wr.grownBy w' (some gn)) := by
            have h := get_two gn b' i pc cnt wc.heap.size hi (by omega) hpc1 (by omega) (by omega) wr HNT.out HHI.out
            rw [← hk.out, ← hr.out, ← hX.out] at h
            exact h
          have d1 : (i : Int) < (k : Int) := by omega
          have d2 : ((r : Int) == 0) = false := by simp; omega
          go_upto_region 17 with (first | (go_at_call 8; refine HG.out.mono ?_; rintro e w4 ⟨A4, rfl, h4, hN, hhi, hg4⟩; have HR4 := Lib.hid h4; have HNT4 := Lib.hid hN; have HHI4 := Lib.hid hhi; have HG4 := Lib.hid hg4; clear h4 hN hhi hg4) | fail)
          have HO4 : Hid (w4.ownsRow hi 5 1 (.slice A8 i c8) i (cellsB (b'.take i)).toList) := HO.out.kept HG4.out (by
            cases A8 with
            | none => exact .inl rfl
            | some ad =>
              right
              intro e
              have e2 : ad.block = gn := by injection e
              have := (HO.out.lt _ rfl).1
              omega)
          have HB4 : Hid (Below wc.heap.size wc w4) := HB.out.trans (grown_below HG4.out hbd.1 HB.out.size)
          have hN1 : Hid ((cellsB X).toList.length = r) := by rw [Hid, Array.length_toList, cellsB_size]; exact hXl.out
          have hN2 : Hid (A4 = none → r = 0 ∧ r = 0) := fun h => by
            obtain ⟨ad, e, _⟩ := HR4.out (by rw [hXl.out]; omega)
            rw [h] at e
            cases e
          have hN3 : Hid (∀ ad, A4 = some ad → ∀ j u, (cellsB X).toList[j]? = some u → w4.cell? (ad.add j) = some u) := fun ad e j u hj => by
            obtain ⟨ad2, e2, h2⟩ := copy_reads HR4.out (by rw [hN1.out]; omega)
            rw [e] at e2
            injection e2 with e2
            subst e2
            exact h2 j u hj
          clear HO HB HG HR4
          go_upto_region 12 with (at_builtin; refine append_any rfl (.tmp 69) (.tmp 70) 33 rfl hi 5 i0 (.int .u8 0) 1 Try.underlying33 HII.out H0.out H1.out H2.out rfl _ i (cellsB (b'.take i)).toList rfl HO4.out A4 r r (cellsB X).toList rfl hN1.out hN2.out hN3.out (cells_one_mem _) (by unfold maxLen; omega) (by omega) HHI4.out ?_; intro v5 w5 hown5 hb5; obtain ⟨A5, c5, rfl, HO5⟩ := grow_row hX.out (by rw [← hk.out]; exact hr2) hown5; have HB5 := Lib.hid hb5; clear hown5 hb5)
          refine ⟨⟨i + r, cnt + 1, c5, A5, by first | rfl | exact ⟨rfl, rfl, rfl⟩, HO5, by first | rfl | simp, by omega, by omega, hr2, Lib.hid (HNT4.out.kept (Below.keeps HB5.out (Nat.le_refl _))), Lib.hid (Nat.le_trans HHI4.out HB5.out.size), Lib.hid (HB4.out.trans (HB5.out.mono (by have := HNT4.out.bounds; omega)))⟩, by omega⟩
        · obtain rfl : i = k := by omega
          have HG : Hid (Calls Try.prog 8 #[.pointer (some ⟨gn, 0, none⟩), .string ⟨#[102]⟩, .int .i64 i, .int .i64 pc] wr fun e w' =>
            ∃ A, e = .returned (.tuple #[.slice A 0 0, .int .i64 0]) ∧ NetOf w' gn [(nmF, b'), (nmG, [])] [] (cnt + 1) wc.heap.size hi ∧ hi ≤ w'.heap.size ∧ wr.grownBy w' (some gn)) := by
            have h := get_two gn b' i pc cnt wc.heap.size hi (by omega) hpc1 (by omega) (by omega) wr HNT.out HHI.out
            rw [show min pc (b'.length - i) = 0 by rw [← hk.out]; omega] at h
            refine Calls.mono h ?_
            rintro e w' ⟨A, h1, _, h2, h3, h4⟩
            exact ⟨A, h1, h2, h3, h4⟩
          have d1 : ¬ (i : Int) < (i : Int) := by omega
          go_upto_region 19 with (first | (go_at_call 8; refine HG.out.mono ?_; rintro e w4 ⟨A4, rfl, hN, hhi, hg4⟩; have HNT4 := Lib.hid hN; have HHI4 := Lib.hid hhi; have HG4 := Lib.hid hg4; clear hN hhi hg4) | fail)
          have HB4 : Hid (Below wc.heap.size wc w4) := HB.out.trans (grown_below HG4.out hbd.1 HB.out.size)
          have HO4 : Hid (w4.ownsRow hi 5 1 (.slice A8 i c8) i (cellsB (b'.take i)).toList) := HO.out.kept HG4.out (by
            cases A8 with
            | none => exact .inl rfl
            | some ad =>
              right
              intro e
              have e2 : ad.block = gn := by injection e
              have := (HO.out.lt _ rfl).1
              omega)
          obtain ⟨sb, hsb⟩ : ∃ sb : ByteArray, sb = ⟨b'.toArray⟩ := ⟨_, rfl⟩
          have hcv1 : (convert 33 9 (.slice A8 i c8)).run Try.prog w4 = .ok (.string sb) w4 := by
            have h4 := HO4.out
            rw [List.take_of_length_le (by rw [← hk.out]; exact Nat.le_refl _), hk.out] at h4
            obtain ⟨A, c, e, _, hrd⟩ := own_reads h4
            injection e with e1 e2 e3
            subst e1 e3
            have h := text_of_B (P := Try.prog) (w := w4) (c := c8) Try.underlying33 Try.underlying5 Try.underlying9 hrd
            rw [← hk.out] at h
            rw [hsb]
            exact h
          have hcv2 : (convert 33 9 (.slice A i c')).run Try.prog w4 = .ok (.string sb) w4 := by
            have h := text_of_B (P := Try.prog) (w := w4) (c := c') Try.underlying33 Try.underlying5 Try.underlying9 (HR.out.below HB4.out)
            rw [← hk.out] at h
            rw [hsb]
            exact h
          clear hsb HG HO HO4
          have HAS := Lib.hid (asked_net gn [(nmF, b'), (nmG, [])] [] (cnt + 1) wc.heap.size hi w4 HNT4.out)
          go_wp2_with (first | (go_at_call 9; refine HAS.out.mono ?_; rintro e w5 ⟨rfl, rfl⟩) | fail)
          go_ret
          exact ⟨by simp, HB4.out⟩
end Go.Proofs.Ytbldognffppeiaa
