/- net.Get, walked. -/
import Derived.Test.YtbldognffppeiaaNetAsk
import Derived.Test.YtbldognffppeiaaArr
namespace Go.Proofs.Ytbldognffppeiaa
open Go.RowKit Go.Maps
set_option linter.unusedSimpArgs false
set_option linter.unusedVariables false
/-- What Get hands back of a file's bytes. -/
def getK (code : Int) (l : List UInt8) (p lim : Nat) : Nat := if code = 2 then min lim (l.length - p) / 2 else min lim (l.length - p)
def getOut (code : Int) (l : List UInt8) (p lim : Nat) : List UInt8 :=
  let k := getK code l p lim
  let out := (l.drop p).take k
  if code = 3 ∧ 0 < k then out.set (k - 1) (out.getD (k - 1) 0 ^^^ 1) else out
theorem reads_grown {w W : World} {gn : Nat} {A : Option Addr} {l : List UInt8} (h : ReadsB w A l) (hg : w.grownBy W (some gn)) (hne : ∀ ad, A = some ad → ad.block ≠ gn) : ReadsB W A l := fun hn => by
  obtain ⟨ad, rfl, hc⟩ := h hn
  refine ⟨ad, rfl, fun j b hj => ?_⟩
  have h1 := hc j b hj
  refine hg.cell h1 ?_
  have hb : (ad.add j).block = ad.block := by unfold Addr.add; split <;> rfl
  rw [hb]
  intro e
  injection e with e
  exact hne ad rfl e
theorem asked_below {w W W' : World} {gn gm : Nat} {F : Value} {a' : Nat} (h : AskedBy w gn gm F a' W) (hb : Below W.heap.size W W') : AskedBy w gn gm F a' W' := by
  obtain ⟨h1, h2⟩ := h
  have hlt := (Array.getElem?_eq_some_iff.1 h2).1
  exact ⟨⟨hb.os.trans h1.os, hb.tape.trans h1.tape, hb.output.trans h1.output, Nat.le_trans h1.size hb.size, fun k hk hne => (hb.block k (Nat.lt_of_lt_of_le hk h1.size)).trans (h1.block k hk hne)⟩, (hb.block gn hlt).trans h2⟩
theorem cells_at (l : List UInt8) (i : Nat) (b : UInt8) (h : l[i]? = some b) : (cellsB l)[i]? = some (.int .u8 (b.toNat : Int)) := by simp [cellsB, h]
theorem reads_drop {w : World} {g : Nat} {l : List UInt8} (h : ReadsB w (some ⟨g, 0, none⟩) l) (p : Nat) : ReadsB w (some ⟨g, p, none⟩) (l.drop p) := fun hn => by
  have hl : 0 < l.length := by rw [List.length_drop] at hn; omega
  obtain ⟨ad, he, hc⟩ := h hl
  injection he with he
  subst he
  refine ⟨⟨g, p, none⟩, rfl, fun j b hj => ?_⟩
  rw [List.getElem?_drop] at hj
  have h1 := hc (p + j) b hj
  rw [Addr.add_mid] at h1 ⊢
  rwa [Nat.zero_add] at h1
theorem flip_int (b : UInt8) : bits .xor .u8 (b.toNat : Int) 1 = (((b ^^^ 1).toNat : Nat) : Int) := by
  have h := b.toNat_lt
  have := u8_xor_nat b.toNat 1 (by omega) (by omega)
  rw [show ((1 : Nat) : Int) = 1 from rfl] at this
  rw [this, UInt8.toNat_xor]; rfl
theorem info8' : (Try.prog.info? 5).map (fun i => (i.zero, i.size, i.bytes)) = some (some (.int .u8 0), 1, 1) := by kernel_rfl
theorem made_zero (n : Nat) : madeCells (Value.int .u8 0).cells (n * 1) = cellsB (List.replicate n 0) := by
  apply Array.toList_inj.1
  rw [Nat.mul_one]
  show (madeCells #[.int .u8 0] n).toList = _
  rw [toList_madeCells_one]
  simp [cellsB]
theorem make_zeros (n : Nat) (hn : n ≤ 1048576) (w : World) : (Instr.makeSlice 33 (.int .i64 (n : Int)) (.int .i64 (n : Int))).run Try.prog w = .ok (.slice (some ⟨w.heap.size, 0, none⟩) n n) (w.alloc (.cells (cellsB (List.replicate n 0)) 5)) := by
  obtain ⟨i0, hi, hz0, hz1, hz2⟩ := info_parts info8'
  have := run_makeSlice w (P := Try.prog) 33 5 i0 (.int .u8 0) Try.underlying33 hi hz0 .i64 .i64 (n : Int) (n : Int) (by omega) (by omega) (by rw [hz1]; omega) (by rw [hz2]; omega) (by omega)
  rw [this, hz1, Int.toNat_natCast, made_zero]

set_option maxHeartbeats 4000000 in
set_option maxRecDepth 100000 in
/-- A request that cannot be: no question is put. -/
theorem get_bad (gn gm : Nat) (F : Value) (a : Nat) (nm : ByteArray) (p lim : Int) (hbad : p < 0 ∨ lim < 1 ∨ 65536 < lim) (w : World) (hN : NetB w gn gm F a) :
    Calls Try.prog 8 #[.pointer (some ⟨gn, 0, none⟩), .string nm, .int .i64 p, .int .i64 lim] w fun e w' => e = .returned (.tuple #[.slice none 0 0, .int .i64 2]) ∧ w = w' := by
  have HN := Lib.hid hN
  clear hN
  by_cases h1 : p < 0
  · go_enter Try.func8, Try.ntmps8
    go_wp2_with fail
    refine (some_call w gn gm F a HN.out).mono ?_
    rintro e w1 ⟨rfl, rfl⟩
    go_wp2_with fail
    go_ret2
    exact ⟨rfl, rfl⟩
  · by_cases h2 : lim < 1
    · go_enter Try.func8, Try.ntmps8
      go_wp2_with fail
      refine (some_call w gn gm F a HN.out).mono ?_
      rintro e w1 ⟨rfl, rfl⟩
      go_wp2_with fail
      go_ret2
      exact ⟨rfl, rfl⟩
    · have h3 : 65536 < lim := by omega
      clear hbad
      go_enter Try.func8, Try.ntmps8
      go_wp2_with fail
      refine (some_call w gn gm F a HN.out).mono ?_
      rintro e w1 ⟨rfl, rfl⟩
      go_wp2_with fail
      go_ret2
      exact ⟨rfl, rfl⟩
set_option maxHeartbeats 4000000 in
set_option maxRecDepth 100000 in
/-- A question answered with a fault, or a name that is not there. -/
theorem get_err (gn gm : Nat) (B : Option Addr) (zs : List Int) (d a : Nat) (hm : zs.length ≤ 1152921504606846976) (hab : a ≤ 1048576) (nm : ByteArray) (hnm : nm.size ≤ maxLen) (p lim : Int) (hp : 0 ≤ p) (hl1 : 1 ≤ lim) (hl2 : lim ≤ 65536) (w : World) (hN : NetB w gn gm (.slice B zs.length d) a) (hB : FaultsAt w B zs) (hgm : gm ≠ gn)
    (hne : ∀ ad, B = some ad → ad.block ≠ gn) (n : Nat) (D : DataW Value) (hown : w.ownsMap Try.prog 9 asIs gm n D) (v : Value) (hv : D.atKey (.string nm.data.toList) (.held (.slice none 0 0)) = .held v)
    (er : Int) (her : er ≠ 0) (hask : askV (codeAt zs a) (has D (.string nm.data.toList)) v = .tuple #[.int .i64 (codeAt zs a), .slice none 0 0, .int .i64 er]) :
    Calls Try.prog 8 #[.pointer (some ⟨gn, 0, none⟩), .string nm, .int .i64 p, .int .i64 lim] w fun e w' => e = .returned (.tuple #[.slice none 0 0, .int .i64 er]) ∧ AskedBy w gn gm (.slice B zs.length d) (a + 1) w' := by
  have HN := Lib.hid hN
  have HA := Lib.hid (ask_any gn gm B zs d a hm hab nm hnm w hN hB hgm hne n D hown v hv)
  rw [hask] at HA
  have e1 : (er == 0) = false := by simpa using her
  have h1 : ¬ p < 0 := by omega
  have h2 : ¬ lim < 1 := by omega
  have h3 : ¬ 65536 < lim := by omega
  clear hN hB hown hv hask hne hp hl1 hl2
  go_enter Try.func8, Try.ntmps8
  go_wp2_with fail
  refine (some_call w gn gm _ a HN.out).mono ?_
  rintro e w1 ⟨rfl, rfl⟩
  go_wp2_with fail
  refine HA.out.mono ?_
  rintro e w2 ⟨rfl, hask⟩
  have HK := Lib.hid hask
  clear hask HA HN
  go_wp2_with fail
  go_ret2
  exact ⟨rfl, HK.out⟩
set_option maxHeartbeats 4000000 in
set_option maxRecDepth 100000 in
/-- A question answered with bytes. -/
theorem get_ok (gn gm : Nat) (B : Option Addr) (zs : List Int) (d a : Nat) (hm : zs.length ≤ 1152921504606846976) (hab : a ≤ 1048576) (nm : ByteArray) (hnm : nm.size ≤ maxLen) (p lim : Nat) (hpb : p ≤ 9223372036854775807) (hl1 : 1 ≤ lim) (hl2 : lim ≤ 65536) (w : World) (hN : NetB w gn gm (.slice B zs.length d) a) (hB : FaultsAt w B zs) (hgm : gm ≠ gn)
    (hne : ∀ ad, B = some ad → ad.block ≠ gn) (n : Nat) (D : DataW Value) (hown : w.ownsMap Try.prog 9 asIs gm n D) (gf c : Nat) (l : List UInt8) (hlc : l.length ≤ c) (hll : l.length ≤ 1048576) (hgf : gf ≠ gn) (hr : ReadsB w (some ⟨gf, 0, none⟩) l)
    (hv : D.atKey (.string nm.data.toList) (.held (.slice none 0 0)) = .held (.slice (some ⟨gf, 0, none⟩) l.length c)) (hok : has D (.string nm.data.toList) = true) (hc1 : codeAt zs a ≠ 1) (hc4 : codeAt zs a ≠ 4) :
    Calls Try.prog 8 #[.pointer (some ⟨gn, 0, none⟩), .string nm, .int .i64 p, .int .i64 lim] w fun e w' => (∃ gx, w.heap.size ≤ gx ∧ e = .returned (.tuple #[.slice (some ⟨gx, 0, none⟩) (getOut (codeAt zs a) l p lim).length (getOut (codeAt zs a) l p lim).length, .int .i64 0]) ∧ Blk w' gx 5 (cellsB (getOut (codeAt zs a) l p lim))) ∧ AskedBy w gn gm (.slice B zs.length d) (a + 1) w' := by
  have HN := Lib.hid hN
  have HA := Lib.hid (ask_any gn gm B zs d a hm hab nm hnm w hN hB hgm hne n D hown _ hv)
  have hask : askV (codeAt zs a) (has D (.string nm.data.toList)) (.slice (some ⟨gf, 0, none⟩) l.length c) = .tuple #[.int .i64 (codeAt zs a), .slice (some ⟨gf, 0, none⟩) l.length c, .int .i64 0] := by
    unfold askV
    rw [if_neg hc1, hok]
    simp [hc4]
  rw [hask] at HA
  have HR := Lib.hid hr
  have h1 : ¬ (p : Int) < 0 := by omega
  have h2 : ¬ (lim : Int) < 1 := by omega
  have h3 : ¬ (65536 : Int) < (lim : Int) := by omega
  clear hN hB hown hv hask hne hok hr
  generalize codeAt zs a = code at *
  go_enter Try.func8, Try.ntmps8
  go_wp2_with fail
  refine (some_call w gn gm _ a HN.out).mono ?_
  rintro e w1 ⟨rfl, rfl⟩
  go_wp2_with fail
  refine HA.out.mono ?_
  rintro e w2 ⟨rfl, hask⟩
  have HK := Lib.hid hask
  have HR2 := Lib.hid (reads_grown HR.out hask.1 (fun ad e => by cases e; exact hgf))
  clear hask HA HN HR
  go_upto_region 8 with (fail)
  have HD4 : Hid (ReadsB w2 (some ⟨gf, p, none⟩) (l.drop p)) := reads_drop HR2.out p
  have HDN : ∀ o : Nat, l.length ≤ p → Hid (ReadsB w2 (some ⟨gf, o, none⟩) (l.drop p)) := fun o h => by
    rw [List.drop_of_length_le h]; exact ReadsB.nil _ _
  go_cut [11] (fun t11 wr => wr = w2 ∧ ∃ o c' : Nat, t11 = .slice (some ⟨gf, o, none⟩) (l.length - p) c' ∧ l.length - p ≤ c' ∧ Hid (ReadsB w2 (some ⟨gf, o, none⟩) (l.drop p)))
  case first =>
    go_wp2_with fail
    all_goals go_meet
    all_goals first
      | (exfalso; omega)
      | exact ⟨rfl, p, c - p, rfl, by omega, HD4⟩
      | exact ⟨rfl, _, _, by rw [show l.length - p = 0 by omega], by omega, HDN _ (by omega)⟩
  case rest =>
    obtain ⟨rfl, o, c', rfl, hlc', HD⟩ := hcut
    clear HDN HD4 HR2
    go_upto_region 9 with (fail)
    go_cut [13] (fun t13 wx => wx = wc ∧ t13 = .int .i64 ((min lim (l.length - p) : Nat) : Int))
    case first =>
      go_wp2_with fail
      all_goals go_meet
      all_goals exact ⟨rfl, congrArg (Value.int .i64) (by omega)⟩
    case rest =>
      obtain ⟨rfl, rfl⟩ := hcut
      obtain ⟨k, hk⟩ : ∃ k, Hid (getK code l p lim = k) := ⟨_, rfl⟩
      by_cases hc2 : code = 2
      · subst hc2
        have hkk : (((min lim (l.length - p) : Nat) : Int) / 2) = (k : Int) := by
          rw [← hk.out]
          unfold getK
          rw [if_pos rfl]
          omega
        go_upto_region 12 with (fail)
        have hmk := make_zeros k (by omega) wc
        go_upto_region 13 with (fail)
        have HB := Lib.hid (Blk.new wc 5 (cellsB (List.replicate k 0)))
        have HW := Lib.hid ((Below.refl wc.heap.size wc).alloc (Nat.le_refl _) (.cells (cellsB (List.replicate k 0)) 5))
        have HDR : Hid (ReadsB wc (some ⟨gf, o, none⟩) (l.drop p)) := HD
        have hkl : Hid (k ≤ (l.drop p).length) := by rw [Hid, List.length_drop, ← hk.out]; unfold getK; split <;> omega
        clear hmk
        generalize wc.alloc (.cells (cellsB (List.replicate k 0)) 5) = w5 at *
        obtain ⟨gx, hgx⟩ : ∃ gx, Hid (gx = wc.heap.size) := ⟨_, rfl⟩
        rw [← hgx.out] at HB ⊢
        go_wp2_with fail
        go_loopw [57] (fun t57 wr => ∃ i : Nat, t57 = .int .i64 i ∧ i ≤ k ∧ Hid (Blk wr gx 5 (cellsB ((l.drop p).take i ++ List.replicate (k - i) 0))) ∧ Hid (Below wc.heap.size wc wr)) (fun t57 _ => k - (intOf t57).toNat)
        case atStart => exact ⟨0, rfl, by omega, HB, HW⟩
        case round =>
          clear HB HW
          obtain ⟨i, rfl, hik, HB, HW⟩ := hrel
          by_cases hlt : i < k
          · have hil : i < (l.drop p).length := by have := hkl.out; omega
            obtain ⟨b, hb⟩ : ∃ b, (l.drop p)[i]? = some b := ⟨_, List.getElem?_eq_getElem hil⟩
            have n1 : wr.cell? ⟨gf, o + i, none⟩ = some (.int .u8 (b.toNat : Int)) := by
              obtain ⟨ad, he, hc⟩ := (HDR.out.below HW.out) (by omega)
              injection he with he
              subst he
              have h := hc i b hb
              rwa [Addr.add_mid] at h
            have htl : ((l.drop p).take i).length = i := by rw [List.length_take]; omega
            have n2 : wr.cell? ⟨gx, i, none⟩ = some (.int .u8 0) := by
              have h : ((l.drop p).take i ++ List.replicate (k - i) 0)[i]? = some 0 := by
                rw [List.getElem?_append_right (by omega), htl, Nat.sub_self, List.getElem?_replicate, if_pos (by omega)]
              exact (HB.out.cell i).trans (cells_at _ i 0 h)
            have n3 : wr.frozen? ⟨gx, i, none⟩ = false := HB.out.frozen i
            have c1 : (i : Int) < (k : Int) := by omega
            have c2 : (i : Int) < ((l.length - p : Nat) : Int) := by rw [List.length_drop] at hil; omega
            have hset : Hid (Blk (wr.setCell ⟨gx, i, none⟩ (.int .u8 (b.toNat : Int))) gx 5 (cellsB ((l.drop p).take (i + 1) ++ List.replicate (k - (i + 1)) 0))) := by
              have h := HB.out.set_ i (.int .u8 (b.toNat : Int))
              rw [cellsB_set] at h
              have e : ((l.drop p).take i ++ List.replicate (k - i) 0).set i b = (l.drop p).take (i + 1) ++ List.replicate (k - (i + 1)) 0 := by
                rw [List.set_append_right _ _ (by omega), htl, Nat.sub_self, List.take_add_one, hb, show k - i = (k - (i + 1)) + 1 by omega, List.replicate_succ]
                simp
              rw [e] at h
              exact h
            have hbel : Hid (Below wc.heap.size wc (wr.setCell ⟨gx, i, none⟩ (.int .u8 (b.toNat : Int)))) := HW.out.setCell (by rw [hgx.out]; exact Nat.le_refl _) _
            clear hb
            go_wp2_with fail
            refine ⟨⟨i + 1, by first | rfl | simp, by omega, hset, hbel⟩, by simp [intOf]; omega⟩
          · obtain rfl : i = k := by omega
            have HKK := Lib.hid (asked_below HK.out HW.out)
            have hout : getOut 2 l p lim = (l.drop p).take i := by
              unfold getOut
              rw [hk.out]
              simp
            have HR9 : Hid (Blk wr gx 5 (cellsB ((l.drop p).take i))) := by
              have h := HB.out
              rw [Nat.sub_self, List.replicate_zero, List.append_nil] at h
              exact h
            have HG9 : Hid (w.heap.size ≤ gx) := by rw [Hid, hgx.out]; exact HK.out.1.size
            have hlen : ((l.drop p).take i).length = i := by have := hkl.out; rw [List.length_take]; omega
            have c1 : ¬ ((i : Int) < (i : Int)) := by omega
            go_wp2_with fail
            go_ret2
            refine ⟨⟨gx, HG9.out, ?_, ?_⟩, HKK.out⟩
            · rfl
            · first | exact HR9.out | (rw [hout]; exact HR9.out)
      · have e2 : (code == 2) = false := by simpa using hc2
        have hkk : min lim (l.length - p) = k := by
          rw [← hk.out]
          unfold getK
          rw [if_neg hc2]
        rw [hkk]
        go_upto_region 12 with (fail)
        have hmk := make_zeros k (by omega) wc
        go_upto_region 13 with (fail)
        have HB := Lib.hid (Blk.new wc 5 (cellsB (List.replicate k 0)))
        have HW := Lib.hid ((Below.refl wc.heap.size wc).alloc (Nat.le_refl _) (.cells (cellsB (List.replicate k 0)) 5))
        have HDR : Hid (ReadsB wc (some ⟨gf, o, none⟩) (l.drop p)) := HD
        have hkl : Hid (k ≤ (l.drop p).length) := by rw [Hid, List.length_drop, ← hk.out]; unfold getK; split <;> omega
        clear hmk
        generalize wc.alloc (.cells (cellsB (List.replicate k 0)) 5) = w5 at *
        obtain ⟨gx, hgx⟩ : ∃ gx, Hid (gx = wc.heap.size) := ⟨_, rfl⟩
        rw [← hgx.out] at HB ⊢
        go_wp2_with fail
        go_loopw [57] (fun t57 wr => ∃ i : Nat, t57 = .int .i64 i ∧ i ≤ k ∧ Hid (Blk wr gx 5 (cellsB ((l.drop p).take i ++ List.replicate (k - i) 0))) ∧ Hid (Below wc.heap.size wc wr)) (fun t57 _ => k - (intOf t57).toNat)
        case atStart => exact ⟨0, rfl, by omega, HB, HW⟩
        case round =>
          clear HB HW
          obtain ⟨i, rfl, hik, HB, HW⟩ := hrel
          by_cases hlt : i < k
          · have hil : i < (l.drop p).length := by have := hkl.out; omega
            obtain ⟨b, hb⟩ : ∃ b, (l.drop p)[i]? = some b := ⟨_, List.getElem?_eq_getElem hil⟩
            have n1 : wr.cell? ⟨gf, o + i, none⟩ = some (.int .u8 (b.toNat : Int)) := by
              obtain ⟨ad, he, hc⟩ := (HDR.out.below HW.out) (by omega)
              injection he with he
              subst he
              have h := hc i b hb
              rwa [Addr.add_mid] at h
            have htl : ((l.drop p).take i).length = i := by rw [List.length_take]; omega
            have n2 : wr.cell? ⟨gx, i, none⟩ = some (.int .u8 0) := by
              have h : ((l.drop p).take i ++ List.replicate (k - i) 0)[i]? = some 0 := by
                rw [List.getElem?_append_right (by omega), htl, Nat.sub_self, List.getElem?_replicate, if_pos (by omega)]
              exact (HB.out.cell i).trans (cells_at _ i 0 h)
            have n3 : wr.frozen? ⟨gx, i, none⟩ = false := HB.out.frozen i
            have c1 : (i : Int) < (k : Int) := by omega
            have c2 : (i : Int) < ((l.length - p : Nat) : Int) := by rw [List.length_drop] at hil; omega
            have hset : Hid (Blk (wr.setCell ⟨gx, i, none⟩ (.int .u8 (b.toNat : Int))) gx 5 (cellsB ((l.drop p).take (i + 1) ++ List.replicate (k - (i + 1)) 0))) := by
              have h := HB.out.set_ i (.int .u8 (b.toNat : Int))
              rw [cellsB_set] at h
              have e : ((l.drop p).take i ++ List.replicate (k - i) 0).set i b = (l.drop p).take (i + 1) ++ List.replicate (k - (i + 1)) 0 := by
                rw [List.set_append_right _ _ (by omega), htl, Nat.sub_self, List.take_add_one, hb, show k - i = (k - (i + 1)) + 1 by omega, List.replicate_succ]
                simp
              rw [e] at h
              exact h
            have hbel : Hid (Below wc.heap.size wc (wr.setCell ⟨gx, i, none⟩ (.int .u8 (b.toNat : Int)))) := HW.out.setCell (by rw [hgx.out]; exact Nat.le_refl _) _
            clear hb
            go_wp2_with fail
            refine ⟨⟨i + 1, by first | rfl | simp, by omega, hset, hbel⟩, by simp [intOf]; omega⟩
          · obtain rfl : i = k := by omega
            have HKK := Lib.hid (asked_below HK.out HW.out)
            have HR9 : Hid (Blk wr gx 5 (cellsB ((l.drop p).take i))) := by
              have h := HB.out
              rw [Nat.sub_self, List.replicate_zero, List.append_nil] at h
              exact h
            have HG9 : Hid (w.heap.size ≤ gx) := by rw [Hid, hgx.out]; exact HK.out.1.size
            have hlen : ((l.drop p).take i).length = i := by have := hkl.out; rw [List.length_take]; omega
            have c1 : ¬ ((i : Int) < (i : Int)) := by omega
            by_cases hc3 : code = 3
            · subst hc3
              by_cases hi0 : i = 0
              · subst hi0
                have hout : getOut 3 l p lim = (l.drop p).take 0 := by
                  unfold getOut
                  rw [hk.out]
                  simp
                go_wp2_with fail
                go_ret2
                refine ⟨⟨gx, HG9.out, ?_, ?_⟩, HKK.out⟩
                · rfl
                · exact HR9.out
              · obtain ⟨b, hb⟩ : ∃ b, Hid (((l.drop p).take i)[i - 1]? = some b) := ⟨_, List.getElem?_eq_getElem (by omega)⟩
                have hout : Hid (getOut 3 l p lim = ((l.drop p).take i).set (i - 1) (b ^^^ 1)) := by
                  show getOut 3 l p lim = _
                  unfold getOut
                  rw [hk.out]
                  have h := hb.out
                  simp only [List.getD_eq_getElem?_getD, h, Option.getD_some]
                  exact if_pos ⟨trivial, by omega⟩
                have HBi : Hid (Blk wr gx 5 (cellsB ((l.drop p).take i))) := by
                  have h := HB.out
                  rw [Nat.sub_self, List.replicate_zero, List.append_nil] at h
                  exact h
                have m1 : wr.cell? ⟨gx, i - 1, none⟩ = some (.int .u8 (b.toNat : Int)) := (HBi.out.cell (i - 1)).trans (cells_at _ _ _ hb.out)
                have m2 : wr.frozen? ⟨gx, i - 1, none⟩ = false := HBi.out.frozen _
                have c2 : (0 : Int) < (i : Int) := by omega
                have HX : Hid (Blk (wr.setCell ⟨gx, i - 1, none⟩ (.int .u8 (bits .xor .u8 (b.toNat : Int) 1))) gx 5 (cellsB (((l.drop p).take i).set (i - 1) (b ^^^ 1)))) := by
                  have h := HBi.out.set_ (i - 1) (.int .u8 (bits .xor .u8 (b.toNat : Int) 1))
                  rw [flip_int, cellsB_set, ← flip_int] at h
                  exact h
                have HK3 := Lib.hid (asked_below HK.out (HW.out.setCell (p := ⟨gx, i - 1, none⟩) (by rw [hgx.out]; exact Nat.le_refl _) (.int .u8 (bits .xor .u8 (b.toNat : Int) 1))))
                go_wp2_with fail
                go_ret2
                refine ⟨⟨gx, HG9.out, ?_, ?_⟩, ?_⟩
                · rw [hout.out, List.length_set, hlen]; rfl
                · rw [hout.out]; exact HX.out
                · exact HK3.out
            · have e3 : (code == 3) = false := by simpa using hc3
              have hout : getOut code l p lim = (l.drop p).take i := by
                unfold getOut
                rw [hk.out]
                simp [hc3]
              go_wp2_with fail
              go_ret2
              refine ⟨⟨gx, HG9.out, ?_, ?_⟩, HKK.out⟩
              · first | rfl | (rw [hout, hlen]; rfl)
              · first | exact HR9.out | (rw [hout]; exact HR9.out)
end Go.Proofs.Ytbldognffppeiaa
