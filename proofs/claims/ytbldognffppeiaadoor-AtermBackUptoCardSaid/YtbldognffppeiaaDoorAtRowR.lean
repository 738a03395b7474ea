/- The reader's row, walked. -/
import Derived.Test.YtbldognffppeiaaDoorAtEachL
import Derived.Test.YtbldognffppeiaaDoorAtList
namespace Go.Proofs.YtbldognffppeiaaDoor
open Go.RowKit Quo
set_option linter.unusedSimpArgs false
set_option linter.unusedVariables false
def rdRow : Nat → Bool → List UInt8 → Option (List ByteArray × List UInt8)
  | 0, _, l => some ([], l)
  | n + 1, first, l => ((if first then some l else eat [44] l).bind rdS).bind fun p => (rdRow n false p.2).map fun q => (p.1 :: q.1, q.2)
def rowR (n : Nat) (l : List UInt8) : Option (List ByteArray × List UInt8) := (eat [40] l).bind fun l => (rdRow n true l).bind fun p => (eat [41] p.2).map fun l => (p.1, l)
theorem rdOut_row (l : List UInt8) : rdOut l = (rowR 3 l).bind fun p => match p.1 with | [a, b, c] => some ((a, b, c), p.2) | _ => none := by
  unfold rdOut rowR
  cases eat [40] l with
  | none => rfl
  | some l1 =>
    simp only [rdRow, Option.bind_some, if_true, Bool.false_eq_true, if_false]
    cases rdS l1 with
    | none => rfl
    | some p =>
      simp only [Option.bind_some]
      cases eat [44] p.2 with
      | none => rfl
      | some l2 =>
        simp only [Option.bind_some]
        cases rdS l2 with
        | none => rfl
        | some q =>
          simp only [Option.bind_some]
          cases eat [44] q.2 with
          | none => rfl
          | some l3 =>
            simp only [Option.bind_some]
            cases rdS l3 with
            | none => rfl
            | some s =>
              simp only [Option.bind_some, Option.map_some]
              cases eat [41] s.2 <;> rfl
theorem rdEnv_row (l : List UInt8) : rdEnv l = (rowR 2 l).bind fun p => match p.1 with | [a, b] => some ((a, b), p.2) | _ => none := by
  unfold rdEnv rowR
  cases eat [40] l with
  | none => rfl
  | some l1 =>
    simp only [rdRow, Option.bind_some, if_true, Bool.false_eq_true, if_false]
    cases rdS l1 with
    | none => rfl
    | some p =>
      simp only [Option.bind_some]
      cases eat [44] p.2 with
      | none => rfl
      | some l2 =>
        simp only [Option.bind_some]
        cases rdS l2 with
        | none => rfl
        | some q =>
          simp only [Option.bind_some, Option.map_some]
          cases eat [41] q.2 <;> rfl
theorem rdRow_length : ∀ (n : Nat) (first : Bool) (l : List UInt8) (p : List ByteArray × List UInt8), rdRow n first l = some p → p.1.length = n := by
  intro n
  induction n with
  | zero => intro first l p h; injection h with h; rw [← h]; rfl
  | succ n ih =>
    intro first l p h
    obtain ⟨x, _, h⟩ := Option.bind_eq_some_iff.1 h
    obtain ⟨q, hq, h⟩ := Option.map_eq_some_iff.1 h
    rw [← h]
    exact congrArg (· + 1) (ih false x.2 q hq)
theorem rowR_length {n : Nat} {l : List UInt8} {p : List ByteArray × List UInt8} (h : rowR n l = some p) : p.1.length = n := by
  obtain ⟨l1, _, h⟩ := Option.bind_eq_some_iff.1 h
  obtain ⟨q, hq, h⟩ := Option.bind_eq_some_iff.1 h
  obtain ⟨l2, _, h⟩ := Option.map_eq_some_iff.1 h
  rw [← h]
  show q.1.length = n
  exact rdRow_length _ _ _ _ hq
theorem row_step {sk : Option (List UInt8)} {first : Bool} {m : Nat} {acc : List ByteArray} : (sk.bind (rdRow (m + 1) first)).map (fun p => (acc ++ p.1, p.2)) = (((if first then sk else sk.bind (eat [44])).bind rdS).bind fun x => (rdRow m false x.2).map fun p => (acc ++ [x.1] ++ p.1, p.2)) := by
  cases sk with
  | none => cases first <;> rfl
  | some l =>
    have e : (if first then some l else (some l).bind (eat [44])) = if first then some l else eat [44] l := rfl
    rw [e]
    show Option.map _ (((if first then some l else eat [44] l).bind rdS).bind _) = _
    cases (if first then some l else eat [44] l).bind rdS with
    | none => rfl
    | some x =>
      show Option.map _ (Option.map _ (rdRow m false x.2)) = Option.map _ (rdRow m false x.2)
      cases rdRow m false x.2 with
      | none => rfl
      | some p => simp
theorem take_set {qs : List ByteArray} {k : Nat} (h : k < qs.length) (q : ByteArray) : (qs.set k q).take (k + 1) = qs.take k ++ [q] := by
  rw [List.take_add_one, List.take_set_of_le (Nat.le_refl _), List.getElem?_set_self h]
  rfl
theorem Blk.keptK {w w' : World} {g a : Nat} {t : TypeId} {cs : Array Value} (h : Blk w a t cs) (hk : Kept g w w') (hne : a ≠ g) : Blk w' a t cs := (hk.block a h.lt (fun e => hne (by injection e))).trans h
theorem RdSt.far {w : World} {g : Nat} {st : Option (List UInt8)} (h : RdSt w g st) {p : Addr} (hp : g ≠ p.block) (u : Value) : RdSt (w.setCell p u) g st := by
  cases st with
  | none => obtain ⟨s, n, h⟩ := h; exact ⟨s, n, h.far hp u⟩
  | some l => exact Blk.far h hp u
def Lim (st : Option (List UInt8)) : Prop := ∀ l, st = some l → l.length ≤ 1048576
theorem Lim.eat {st : Option (List UInt8)} (h : Lim st) (p : List UInt8) : Lim (st.bind (YtbldognffppeiaaDoor.eat p)) := fun l e => by
  obtain ⟨l0, h0, h1⟩ := Option.bind_eq_some_iff.1 e
  have := h l0 h0
  rw [eat_less h1] at this
  omega
theorem Lim.rd {α : Type} {rd : List UInt8 → Option (α × List UInt8)} {tell : α → List UInt8} (hr : Reads rd tell) {st : Option (List UInt8)} (h : Lim st) : Lim ((st.bind rd).map (·.2)) := fun l e => by
  obtain ⟨p, hp, e⟩ := Option.map_eq_some_iff.1 e
  obtain ⟨l0, h0, h1⟩ := Option.bind_eq_some_iff.1 hp
  have h2 := h l0 h0
  have h3 := (hr l0 p.1 p.2).1 h1
  rw [h3, List.length_append] at h2
  rw [← e]
  show p.2.length ≤ _
  omega
/-- The loop's state. -/
structure RowInv (w : World) (g a n : Nat) (R : Option (List ByteArray × List UInt8)) (qs : List ByteArray) (sk : Option (List UInt8)) (k : Nat) (W : World) : Prop where
  rd : RdSt W g sk
  kept : Kept g w W
  blk : Blk W a 9 (strCells qs)
  len : qs.length = n
  fit : Lim sk
  said : R = (sk.bind (rdRow (n - k) (decide (k = 0)))).map fun p => (qs.take k ++ p.1, p.2)
set_option maxHeartbeats 4000000 in
set_option maxRecDepth 1000000 in
theorem rowR_any (n : Nat) (hn : n ≤ 3) (g : Nat) (st : Option (List UInt8)) (w : World) (hg : 1 < g) (hT : Tabs w) (hl : Lim st) (h : RdSt w g st) : Calls Tryd.prog 75 #[.pointer (some ⟨g, 0, none⟩), .int .i64 (n : Int)] w fun e w' => ∃ a qs, e = .returned (.slice (some ⟨a, 0, none⟩) n n) ∧ w.heap.size ≤ a ∧ Blk w' a 9 (strCells qs) ∧ qs.length = n ∧ RdSt w' g ((st.bind (rowR n)).map (·.2)) ∧ Kept g w w' ∧ (∀ p, st.bind (rowR n) = some p → qs = p.1) := by
  have hmk := make_strs n (by omega) w
  obtain ⟨a, ha⟩ : ∃ a, Hid (w.heap.size = a) := ⟨_, rfl⟩
  have hga : Hid (g < a) := by rw [← ha.out]; exact h.lt
  have HK0 : Hid (Blk (w.alloc (.cells (strCells (List.replicate n ⟨#[]⟩)) 9)) a 9 (strCells (List.replicate n ⟨#[]⟩))) := by
    rw [← ha.out]; exact Blk.new w 9 _
  have HKp : Hid (Kept g w (w.alloc (.cells (strCells (List.replicate n ⟨#[]⟩)) 9))) := (Kept.refl g w).alloc _
  have HR0 : Hid (RdSt (w.alloc (.cells (strCells (List.replicate n ⟨#[]⟩)) 9)) g st) := h.kept h.lt ((Below.refl _ _).alloc (Nat.le_refl _) _)
  have HT := Lib.hid hT
  have HL := Lib.hid hl
  obtain ⟨s1, hs1⟩ : ∃ s1, Hid (st.bind (eat [40]) = s1) := ⟨_, rfl⟩
  have hRR : Hid (st.bind (rowR n) = (s1.bind (rdRow n true)).bind fun p => (eat [41] p.2).map fun l => (p.1, l)) := by
    rw [Hid, ← hs1.out]
    cases st with
    | none => rfl
    | some l =>
      show ((eat [40] l).bind _) = ((eat [40] l).bind _).bind _
      cases eat [40] l <;> rfl
  have hl1 : Hid (Lim s1) := by rw [← hs1.out]; exact hl.eat [40]
  rw [ha.out] at hmk
  clear h hT hl
  go_enter Tryd.func75, Tryd.ntmps75
  go_upto_region 2 with (fail)
  clear hmk
  generalize w.alloc (.cells (strCells (List.replicate n ⟨#[]⟩)) 9) = W0 at *
  have HC := Lib.hid (take_any [40] g st W0 HR0.out)
  rw [hs1.out] at HC
  go_wp2_with (first
    | (go_at_call 57; refine HC.out.mono ?_; rintro e w1 ⟨rfl, hr, hk⟩; have HR1 := Lib.hid hr; have HK1 := Lib.hid (HK0.out.keptK hk (by have := hga.out; omega)); have HP1 := Lib.hid (HKp.out.trans hk); clear hr hk)
    | fail)
  clear HC HK0 HKp HR0 hs1
  obtain ⟨R, hR⟩ : ∃ R, Hid (s1.bind (rdRow n true) = R) := ⟨_, rfl⟩
  rw [hR.out] at hRR
  have HI : Hid (RowInv w g a n R (List.replicate n ⟨#[]⟩) s1 0 w1) := ⟨HR1.out, HP1.out, HK1.out, List.length_replicate, hl1.out, by
    rw [← hR.out]
    show _ = Option.map _ (s1.bind (rdRow n true))
    cases s1.bind (rdRow n true) <;> rfl⟩
  clear HR1 HP1 HK1 hR hl1
  go_loopw [13] (fun t13 wr => ∃ (k : Nat) (qs : List ByteArray) (sk : Option (List UInt8)), t13 = .int .i64 k ∧ k ≤ n ∧ Hid (RowInv w g a n R qs sk k wr)) (fun t13 _ => n - (intOf t13).toNat)
  case atStart => exact ⟨0, _, _, rfl, Nat.zero_le _, HI⟩
  case round =>
    clear HI
    obtain ⟨k, qs, sk, rfl, hk, HI⟩ := hrel
    by_cases hlt : k < n
    · have d1 : (k : Int) < (n : Int) := by omega
      have d2 : (0 : Int) ≤ (k : Int) := by omega
      obtain ⟨q0, hq0⟩ : ∃ q0, Hid (qs[k]? = some q0) := ⟨_, List.getElem?_eq_getElem (by rw [HI.out.len]; exact hlt)⟩
      have hag : Hid (a ≠ g) := by have := hga.out; rw [Hid]; omega
      by_cases hk0 : k = 0
      · have d3 : ¬ (0 : Int) < (k : Int) := by omega
        have hs2 : Hid ((if decide (k = 0) then sk else sk.bind (eat [44])) = sk) := by rw [Hid, hk0]; rfl
        have HQ := Lib.hid (quoted_any g sk wr hg (tabs_kept HT.out hg HI.out.kept) HI.out.fit HI.out.rd)
        have hlim := Lib.hid (HI.out.fit.rd rdS_reads)
        clear hk0
        go_upto_region 8 with (fail)
        have HK8 : Hid (Kept g wr wr) := Kept.refl g wr
        go_upto_region 9 with (first
          | (go_at_call 63; refine HQ.out.mono ?_; rintro e w3 ⟨q, rfl, hr3, hq3, hk3⟩; have HR3 := Lib.hid hr3; have HQ3 := Lib.hid hq3; have HK3 := Lib.hid (HK8.out.trans hk3); have HB3 := Lib.hid (HI.out.blk.keptK (HK8.out.trans hk3) hag.out); have y1 : w3.cell? ⟨a, k, none⟩ = some (.string q0) := (HB3.out.cell k).trans (strCells_at hq0.out); have y2 : w3.frozen? ⟨a, k, none⟩ = false := HB3.out.frozen k; clear hr3 hq3 hk3)
          | fail)
        have HI4 : Hid (RowInv w g a n R (qs.set k q) (((sk).bind rdS).map (·.2)) (k + 1) (w3.setCell ⟨a, k, none⟩ (.string q))) := by
          refine ⟨HR3.out.far (show g ≠ a from fun e => hag.out e.symm) _, (HI.out.kept.trans HK3.out).belowB ((Below.refl w.heap.size w3).setCell (p := ⟨a, k, none⟩) (by rw [ha.out]; exact Nat.le_refl _) _) (Nat.le_refl _), ?_, by rw [List.length_set]; exact HI.out.len, hlim.out, ?_⟩
          · have h5 := HB3.out.set_ k (.string q)
            rw [strCells_set] at h5
            exact h5
          · have hsd := HI.out.said
            obtain ⟨m, hm⟩ : ∃ m, n - k = m + 1 := ⟨n - k - 1, by omega⟩
            rw [hm, row_step, hs2.out] at hsd
            have hm2 : n - (k + 1) = m := by omega
            rw [hsd, hm2, take_set (by rw [HI.out.len]; exact hlt)]
            have hdk : decide (k + 1 = 0) = false := by simp
            rw [hdk]
            cases hrd : (sk).bind rdS with
            | none => rfl
            | some x =>
              have hx := HQ3.out x hrd
              rw [hx]
              rfl
        clear y1 y2 HB3 HR3 HQ3 HQ hlim hs2
        generalize w3.setCell ⟨a, k, none⟩ (.string q) = W4 at *
        go_wp2_with fail
        exact ⟨⟨k + 1, _, _, by first | rfl | simp, by omega, HI4⟩, by simp [intOf]; omega⟩
      · have d3 : (0 : Int) < (k : Int) := by omega
        have hs2 : Hid ((if decide (k = 0) then sk else sk.bind (eat [44])) = sk.bind (eat [44])) := by rw [Hid, if_neg (by simpa using hk0)]
        have HS := Lib.hid (take_any [44] g sk wr HI.out.rd)
        have hlim := Lib.hid ((HI.out.fit.eat [44]).rd rdS_reads)
        clear hk0
        go_upto_region 8 with (first
          | (go_at_call 57; refine HS.out.mono ?_; rintro e w2 ⟨rfl, hr, hk⟩; have HR2 := Lib.hid hr; have HK8 := Lib.hid hk; clear hr hk)
          | fail)
        have HQ := Lib.hid (quoted_any g (sk.bind (eat [44])) w2 hg (tabs_kept HT.out hg (HI.out.kept.trans HK8.out)) (HI.out.fit.eat [44]) HR2.out)
        go_upto_region 9 with (first
          | (go_at_call 63; refine HQ.out.mono ?_; rintro e w3 ⟨q, rfl, hr3, hq3, hk3⟩; have HR3 := Lib.hid hr3; have HQ3 := Lib.hid hq3; have HK3 := Lib.hid (HK8.out.trans hk3); have HB3 := Lib.hid (HI.out.blk.keptK (HK8.out.trans hk3) hag.out); have y1 : w3.cell? ⟨a, k, none⟩ = some (.string q0) := (HB3.out.cell k).trans (strCells_at hq0.out); have y2 : w3.frozen? ⟨a, k, none⟩ = false := HB3.out.frozen k; clear hr3 hq3 hk3)
          | fail)
        have HI4 : Hid (RowInv w g a n R (qs.set k q) ((((sk.bind (eat [44]))).bind rdS).map (·.2)) (k + 1) (w3.setCell ⟨a, k, none⟩ (.string q))) := by
          refine ⟨HR3.out.far (show g ≠ a from fun e => hag.out e.symm) _, (HI.out.kept.trans HK3.out).belowB ((Below.refl w.heap.size w3).setCell (p := ⟨a, k, none⟩) (by rw [ha.out]; exact Nat.le_refl _) _) (Nat.le_refl _), ?_, by rw [List.length_set]; exact HI.out.len, hlim.out, ?_⟩
          · have h5 := HB3.out.set_ k (.string q)
            rw [strCells_set] at h5
            exact h5
          · have hsd := HI.out.said
            obtain ⟨m, hm⟩ : ∃ m, n - k = m + 1 := ⟨n - k - 1, by omega⟩
            rw [hm, row_step, hs2.out] at hsd
            have hm2 : n - (k + 1) = m := by omega
            rw [hsd, hm2, take_set (by rw [HI.out.len]; exact hlt)]
            have hdk : decide (k + 1 = 0) = false := by simp
            rw [hdk]
            cases hrd : ((sk.bind (eat [44]))).bind rdS with
            | none => rfl
            | some x =>
              have hx := HQ3.out x hrd
              rw [hx]
              rfl
        clear y1 y2 HB3 HR3 HQ3 HQ hlim hs2
        generalize w3.setCell ⟨a, k, none⟩ (.string q) = W4 at *
        go_wp2_with fail
        exact ⟨⟨k + 1, _, _, by first | rfl | simp, by omega, HI4⟩, by simp [intOf]; omega⟩
    · obtain rfl : n = k := by omega
      have d1 : ¬ (n : Int) < (n : Int) := by omega
      have HE := Lib.hid (take_any [41] g sk wr HI.out.rd)
      go_wp2_with (first
        | (go_at_call 57; refine HE.out.mono ?_; rintro e w2 ⟨rfl, hr, hk⟩; have HR2 := Lib.hid hr; have HK2 := Lib.hid hk; clear hr hk)
        | fail)
      go_ret
      have hsd := HI.out.said
      rw [Nat.sub_self] at hsd
      have htk : qs.take n = qs := List.take_of_length_le (by rw [HI.out.len]; exact Nat.le_refl _)
      rw [htk] at hsd
      have hfin : st.bind (rowR n) = (sk.bind (eat [41])).map fun l => (qs, l) := by
        rw [hRR.out, hsd]
        cases sk with
        | none => rfl
        | some l =>
          show Option.map _ (eat [41] l) = Option.map _ (eat [41] l)
          simp
      rw [hfin]
      refine ⟨a, qs, rfl, by rw [ha.out]; exact Nat.le_refl _, HI.out.blk.keptK HK2.out (by have := hga.out; omega), HI.out.len, ?_, HI.out.kept.trans HK2.out, fun p e => ?_⟩
      · have h4 := HR2.out
        cases hsk : sk.bind (eat [41]) with
        | none => rw [hsk] at h4; exact h4
        | some l => rw [hsk] at h4; exact h4
      · obtain ⟨l, _, e⟩ := Option.map_eq_some_iff.1 e
        rw [← e]
end Go.Proofs.YtbldognffppeiaaDoor
