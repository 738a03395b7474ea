/- NetPlays' arguments, opened: a list of files, a list of requests. -/
import Derived.Test.YtbldognffppeiaaWalkPlays
import Derived.Test.YtbldognffppeiaaOpenNums
import Derived.Test.YtbldognffppeiaaOpenAct
import Derived.DataReads
import Derived.SizedLaws
namespace Go.Proofs.Ytbldognffppeiaa
open Go.ChangeShapes Go.WideShapes Go.ChangeAt Go.RowKit
set_option linter.unusedSimpArgs false
set_option linter.unusedVariables false
section
variable {H : Type} {enc : TypeId × Value → H} {P : Program} {w : World} {base : Nat} {held : Bool}
theorem list_all {α : Type} (R : Nat → α → Prop) : ∀ n, (∀ i, i < n → ∃ x, R i x) → ∃ l : List α, l.length = n ∧ ∀ i x, l[i]? = some x → R i x
  | 0, _ => ⟨[], rfl, fun i x h => by simp at h⟩
  | n + 1, h => by
    obtain ⟨l, hl, hx⟩ := list_all R n (fun i hi => h i (by omega))
    obtain ⟨y, hy⟩ := h n (by omega)
    refine ⟨l ++ [y], by simp [hl], fun i x hi => ?_⟩
    rcases Nat.lt_trichotomy i n with h1 | h1 | h1
    · rw [List.getElem?_append_left (by omega)] at hi
      exact hx i x hi
    · subst h1
      rw [List.getElem?_append_right (by omega)] at hi
      simp [hl] at hi
      subst hi
      exact hy
    · rw [List.getElem?_eq_none (by simp; omega)] at hi
      cases hi
theorem weightsAll_mem {e : TypeId} {d : DataW H} : ∀ {l : List (DataW H)}, d ∈ l → ∀ n ∈ d.weights P e, n ∈ DataW.weightsAll P e l
  | [], h, _, _ => by cases h
  | x :: r, h, n, hn => by
    rw [DataW.weightsAll, List.mem_append]
    rcases List.mem_cons.1 h with rfl | h
    · exact .inl hn
    · exact .inr (weightsAll_mem h n hn)
/-- A slice of bytes among what is read: its capacity is within reach. -/
theorem bytes_cap {n : Nat} {v : Value} {y : DataW H × List MemPlace} (h : DataW.trod enc Try.prog w base (fun _ => true) held n 33 [v] = some y) (hr : ∀ k ∈ y.1.weights Try.prog 33, k ≤ reachBytes) :
    ∃ (A : Option Addr) (l : List UInt8) (c : Nat), v = .slice A l.length c ∧ l.length ≤ c ∧ c ≤ 140737488351232 ∧ (A = none → l.length = 0 ∧ c = 0) ∧ ReadsB w A l := by
  have hce : Try.prog.cellsOf 5 = 1 := by kernel_rfl
  rcases open_ints Try.underlying33 Try.underlying5 hce h with ⟨hcs, _⟩ | ⟨x, l, c, zs, hcs, _, hl, hm, hz, hx, hcell, hwz⟩
  · simp at hcs
    subst hcs
    exact ⟨none, [], 0, rfl, Nat.le_refl _, Nat.zero_le _, fun _ => ⟨rfl, rfl⟩, ReadsB.nil _ _⟩
  · simp at hcs
    subst hcs
    have hz2 : zs.length = c := by simpa using hz
    have hw1 : c ≤ 140737488351232 := by
      have hb : Try.prog.bytesOf 5 = 1 := by kernel_rfl
      have := hr (((zs.take l).length + (zs.drop l).length) * Try.prog.bytesOf 5) (by rw [hx]; simp [DataW.weights, Try.underlying33, lits])
      rw [hb, List.length_take, List.length_drop] at this
      have h2 : reachBytes = 140737488351232 := by decide
      omega
    have hall : ∀ k, k ≤ l → ∃ bs : List UInt8, bs.length = k ∧ ∀ i (h : i < bs.length), zs.getD i 0 = (bs[i].toNat : Int) := by
      intro k
      induction k with
      | zero => intro _; exact ⟨[], rfl, fun i hi => by simp at hi⟩
      | succ k ih =>
        intro hk
        obtain ⟨bs, hb, hc⟩ := ih (by omega)
        subst hb
        have hk2 : bs.length < zs.length := by omega
        obtain ⟨b, hbb⟩ := byte_of_wf (hwz zs[bs.length] (List.getElem_mem hk2))
        refine ⟨bs ++ [b], by simp, fun i hi => ?_⟩
        by_cases hik : i < bs.length
        · rw [hc i hik, List.getElem_append_left hik]
        · obtain rfl : i = bs.length := by simp at hi; omega
          simp [List.getD, hk2, hbb]
    obtain ⟨bs, hb, hc⟩ := hall l (Nat.le_refl _)
    subst hb
    refine ⟨some x, bs, c, rfl, hl, hw1, (fun h => by cases h), fun _ => ⟨x, rfl, fun j b hj => ?_⟩⟩
    have hj2 : j < bs.length := (List.getElem?_eq_some_iff.1 hj).1
    rw [List.getElem?_eq_getElem hj2] at hj
    injection hj with hj
    rw [hcell j (by omega), hc j hj2, hj]
/-- An address at which something lies names no spot. -/
theorem addr_plain {a : Addr} {v : Value} (h : w.cell? a = some v) : ∃ g o, a = ⟨g, o, none⟩ := by
  obtain ⟨g, o, sp⟩ := a
  rcases sp with _ | s
  · exact ⟨g, o, rfl⟩
  · unfold World.cell? at h
    split at h
    · simp at h
    · cases h
theorem open_files {r : Reach} {b0 : Nat} {v : Value} {d : DataW H} {ps : List MemPlace} (hval : Value.okWide Try.prog w r b0 42 v) (hd : DataW.Trod enc Try.prog w base (fun _ => true) held 42 v d ps) (hr : ∀ k ∈ d.weights Try.prog 42, k ≤ reachBytes) :
    ∃ (A : Option Addr) (fs : List (ByteArray × List UInt8)) (c : Nat), v = .slice A fs.length c ∧ fs.length * 40 ≤ 140737488351232 ∧ fs.length ≤ c ∧ c ≤ maxLen ∧ FilesArg w A fs := by
  obtain ⟨A, len, cap, rfl⟩ := okWide_slice Try.underlying42 hval
  obtain ⟨fuel, hf⟩ := hd
  have hc41 : Try.prog.cellsOf 41 = 2 := by kernel_rfl
  have hc9 : Try.prog.cellsOf 9 = 1 := by kernel_rfl
  have hc33 : Try.prog.cellsOf 33 = 1 := by kernel_rfl
  have hb41 : Try.prog.bytesOf 41 = 40 := by kernel_rfl
  have h2 : reachBytes = 140737488351232 := by decide
  rcases DataW.trod_slice Try.underlying42 hf with ⟨hcs, _⟩ | ⟨a, len', cap', elems, rest, n, _, hcs, hx, _, hl, hm, hlen, hel, hsp, _⟩
  · simp [Value.cells] at hcs
    obtain ⟨rfl, rfl, rfl⟩ := hcs
    exact ⟨none, [], 0, rfl, Nat.zero_le _, Nat.le_refl _, Nat.zero_le _, fun j f hj => by simp at hj⟩
  · simp [Value.cells] at hcs
    obtain ⟨rfl, rfl, rfl⟩ := hcs
    simp only [Prod.mk.injEq] at hx
    have hd := hx.1
    have hw40 : len * 40 ≤ 140737488351232 := by
      have := hr (((elems.map (·.1)).length + (rest.map (·.1)).length) * Try.prog.bytesOf 41) (by rw [hd]; simp [DataW.weights, Try.underlying42])
      rw [hb41, List.length_map, List.length_map] at this
      omega
    obtain ⟨fs, hfs, hall⟩ := list_all (fun i (f : ByteArray × List UInt8) => ∃ g o Aj cj, a = ⟨g, o, none⟩ ∧ w.cell? ⟨g, o + i * 2, none⟩ = some (.string f.1) ∧ w.cell? ⟨g, o + i * 2 + 1, none⟩ = some (.slice Aj f.2.length cj) ∧ f.2.length ≤ cj ∧ cj ≤ 140737488351232 ∧ (Aj = none → f.2.length = 0 ∧ cj = 0) ∧ f.1.size ≤ maxLen ∧ ReadsB w Aj f.2) len (fun i hi => by
      have h1 := hel i hi
      have hil : i < elems.length := by omega
      rw [hc41, List.getElem?_eq_getElem hil, Option.bind_eq_some_iff] at h1
      obtain ⟨cs, hc1, hc2⟩ := h1
      obtain ⟨ys, n', _, hy, hcl, hyl, hg⟩ := DataW.trod_struct Try.underlying41 hc2
      obtain ⟨_, h3, h4⟩ := World.cells?_some hc1
      match cs, h3 with
      | [c0, c1], _ =>
        match ys, hyl with
        | [y0, y1], _ =>
          have g0 : DataW.trod enc Try.prog w base (fun _ => true) held n' 9 (([c0, c1].drop 0).take (Try.prog.cellsOf 9)) = some y0 := hg 0 _ rfl
          have g1 : DataW.trod enc Try.prog w base (fun _ => true) held n' 33 (([c0, c1].drop 1).take (Try.prog.cellsOf 33)) = some y1 := hg 1 _ rfl
          rw [hc9] at g0
          rw [hc33] at g1
          obtain ⟨s, e0, _, hs⟩ := DataW.trod_string Try.underlying9 g0
          have hmem : (elems[i]).1 ∈ elems.map (·.1) := List.mem_map_of_mem (List.getElem_mem hil)
          have hw1 : ∀ k ∈ y1.1.weights Try.prog 33, k ≤ reachBytes := fun k hk => by
            refine hr k ?_
            rw [hd]
            simp only [DataW.weights, Try.underlying42, List.mem_cons, List.mem_append]
            right; left
            refine weightsAll_mem hmem k ?_
            have he : (elems[i]).1 = .agg [y0.1, y1.1] := by
              have := congrArg Prod.fst hy
              simpa using this
            rw [he]
            simp only [DataW.weights, Try.underlying41]
            exact DataW.weights_mem_each (j := 1) (t := 33) (d := y1.1) rfl rfl k hk
          obtain ⟨Aj, l, cj, e1, q1, q2, q3, q4⟩ := bytes_cap g1 hw1
          simp at e0
          subst e0 e1
          have k0' : w.cell? (a.add (i * 2)) = some (.string s) := h4 0 (by omega)
          have k1 : w.cell? ((a.add (i * 2)).add 1) = some (.slice Aj l.length cj) := h4 1 (by omega)
          obtain ⟨g, o, e⟩ := addr_plain k0'
          have hgo : ∃ g' o', a = ⟨g', o', none⟩ := by
            rcases Nat.eq_zero_or_pos (i * 2) with hz | hz
            · rw [hz] at e
              exact ⟨g, o, by simpa [Addr.add] using e⟩
            · have h0 : ∀ j, j < len → True := fun _ _ => trivial
              have h00 := hel 0 (by omega)
              rw [hc41, List.getElem?_eq_getElem (by omega), Option.bind_eq_some_iff] at h00
              obtain ⟨cs0, hc10, _⟩ := h00
              obtain ⟨_, h30, h40⟩ := World.cells?_some hc10
              have h41 := h40 0 (by omega)
              have h42 : w.cell? a = some (cs0[0]'(by omega)) := by
                rw [List.getElem?_eq_getElem (by omega)] at h41
                simpa [Addr.add] using h41
              exact addr_plain h42
          obtain ⟨g', o', rfl⟩ := hgo
          rw [Addr.add_mid] at k0' k1
          rw [Addr.add_mid] at k1
          exact ⟨(s, l), g', o', Aj, cj, rfl, k0', k1, q1, q2, q3, hs, q4⟩)
    subst hfs
    refine ⟨some a, fs, cap, rfl, hw40, hl, hm, fun j f hj => ?_⟩
    obtain ⟨g, o, Aj, cj, rfl, q⟩ := hall j f hj
    exact ⟨g, o, Aj, cj, rfl, q⟩
theorem open_nums2 {r : Reach} {b0 : Nat} {v : Value} {d : DataW H} {ps : List MemPlace} (hval : Value.okWide Try.prog w r b0 26 v) (hd : DataW.Trod enc Try.prog w base (fun _ => true) held 26 v d ps) (hr : ∀ k ∈ d.weights Try.prog 26, k ≤ reachBytes) :
    ∃ (A : Option Addr) (zs : List Int) (c : Nat), v = .slice A zs.length c ∧ zs.length * 8 ≤ 140737488351232 ∧ (A = none → zs.length = 0 ∧ c = 0) ∧ FaultsAt w A zs := by
  have hce : Try.prog.cellsOf 3 = 1 := by kernel_rfl
  obtain ⟨A, len, cap, rfl⟩ := okWide_slice Try.underlying26 hval
  obtain ⟨fuel, hf⟩ := hd
  rcases open_ints Try.underlying26 Try.underlying3 hce hf with ⟨hcs, _⟩ | ⟨x, l, c, zs, hcs, _, hl, hm, hz, hx, hcell, hwz⟩
  · simp [Value.cells] at hcs
    obtain ⟨rfl, rfl, rfl⟩ := hcs
    exact ⟨none, [], 0, rfl, Nat.zero_le _, fun _ => ⟨rfl, rfl⟩, fun j z hj => by simp at hj⟩
  · simp [Value.cells] at hcs
    obtain ⟨rfl, rfl, rfl⟩ := hcs
    have hz2 : zs.length = cap := by simpa using hz
    have hb : Try.prog.bytesOf 3 = 8 := by kernel_rfl
    simp only [Prod.mk.injEq] at hx
    have hw := hr (((zs.take len).length + (zs.drop len).length) * Try.prog.bytesOf 3) (by rw [hx.1]; simp [DataW.weights, Try.underlying26, lits])
    rw [hb, List.length_take, List.length_drop] at hw
    have h2 : reachBytes = 140737488351232 := by decide
    have hlen : (zs.take len).length = len := by rw [List.length_take]; omega
    refine ⟨some x, zs.take len, cap, by rw [hlen], by rw [hlen]; omega, (fun h => by cases h), fun j z hj => ⟨x, rfl, ?_⟩⟩
    have hj2 : j < zs.length := by
      rw [List.getElem?_take] at hj
      split at hj
      · exact (List.getElem?_eq_some_iff.1 hj).1
      · cases hj
    rw [List.getElem?_take] at hj
    split at hj
    · rw [hcell j hj2, List.getD_eq_getElem?_getD, hj]; rfl
    · cases hj
theorem open_acts {r : Reach} {b0 : Nat} {v : Value} {d : DataW H} {ps : List MemPlace} (hval : Value.okWide Try.prog w r b0 44 v) (hd : DataW.Trod enc Try.prog w base (fun _ => true) held 44 v d ps) :
    ∃ (A : Option Addr) (qs : List ActV) (c : Nat), v = .slice A qs.length c ∧ qs.length ≤ c ∧ c ≤ maxLen ∧ ActsArg w A qs := by
  obtain ⟨A, len, cap, rfl⟩ := okWide_slice Try.underlying44 hval
  obtain ⟨fuel, hf⟩ := hd
  have hc23 : Try.prog.cellsOf 23 = 4 := by kernel_rfl
  have hc9 : Try.prog.cellsOf 9 = 1 := by kernel_rfl
  have hc3 : Try.prog.cellsOf 3 = 1 := by kernel_rfl
  rcases DataW.trod_slice Try.underlying44 hf with ⟨hcs, _⟩ | ⟨a, len', cap', elems, rest, n, _, hcs, hx, _, hl, hm, hlen, hel, hsp, _⟩
  · simp [Value.cells] at hcs
    obtain ⟨rfl, rfl, rfl⟩ := hcs
    exact ⟨none, [], 0, rfl, Nat.le_refl _, Nat.zero_le _, fun j f hj => by simp at hj⟩
  · simp [Value.cells] at hcs
    obtain ⟨rfl, rfl, rfl⟩ := hcs
    obtain ⟨qs, hqs, hall⟩ := list_all (fun i (q : ActV) => ∃ g o, a = ⟨g, o, none⟩ ∧ q.name.size ≤ maxLen ∧ w.cell? ⟨g, o + i * 4, none⟩ = some (.int .i64 q.kind) ∧ w.cell? ⟨g, o + i * 4 + 1, none⟩ = some (.string q.name) ∧ w.cell? ⟨g, o + i * 4 + 2, none⟩ = some (.int .i64 q.from_) ∧ w.cell? ⟨g, o + i * 4 + 3, none⟩ = some (.int .i64 q.count) ∧ q.from_ ≤ 9223372036854775807) len (fun i hi => by
      have h1 := hel i hi
      have hil : i < elems.length := by omega
      rw [hc23, List.getElem?_eq_getElem hil, Option.bind_eq_some_iff] at h1
      obtain ⟨cs, hc1, hc2⟩ := h1
      obtain ⟨y0, y1, y2, y3, n', _, _, g0, g1, g2, g3⟩ := Joins.trod_struct4 Try.underlying23 hc2
      obtain ⟨_, h3, h4⟩ := World.cells?_some hc1
      match cs, h3 with
      | [c0, c1, c2, c3], _ =>
        simp only [hc9, hc3] at g0 g1 g2 g3
        simp at g0 g1 g2 g3
        obtain ⟨k, e0, _, _⟩ := DataW.trod_int Try.underlying3 g0
        obtain ⟨s, e1, _, hs⟩ := DataW.trod_string Try.underlying9 g1
        obtain ⟨x, e2, _, hx2⟩ := DataW.trod_int Try.underlying3 g2
        obtain ⟨y, e3, _, _⟩ := DataW.trod_int Try.underlying3 g3
        simp at e0 e1 e2 e3
        subst e0 e1 e2 e3
        have k0' : w.cell? (a.add (i * 4)) = some (.int .i64 k) := h4 0 (by omega)
        have k1 : w.cell? ((a.add (i * 4)).add 1) = some (.string s) := h4 1 (by omega)
        have k2 : w.cell? ((a.add (i * 4)).add 2) = some (.int .i64 x) := h4 2 (by omega)
        have k3 : w.cell? ((a.add (i * 4)).add 3) = some (.int .i64 y) := h4 3 (by omega)
        have hgo : ∃ g' o', a = ⟨g', o', none⟩ := by
          have h00 := hel 0 (by omega)
          rw [hc23, List.getElem?_eq_getElem (by omega), Option.bind_eq_some_iff] at h00
          obtain ⟨cs0, hc10, _⟩ := h00
          obtain ⟨_, h30, h40⟩ := World.cells?_some hc10
          have h41 := h40 0 (by omega)
          have h42 : w.cell? a = some (cs0[0]'(by omega)) := by
            rw [List.getElem?_eq_getElem (by omega)] at h41
            simpa [Addr.add] using h41
          exact addr_plain h42
        obtain ⟨g', o', rfl⟩ := hgo
        rw [Addr.add_mid] at k0' k1 k2 k3
        rw [Addr.add_mid] at k1 k2 k3
        have hxb : x ≤ 9223372036854775807 := by
          simp [Lit.wf, IntKind.min, IntKind.max, IntKind.signed, IntKind.bits] at hx2
          omega
        exact ⟨⟨k, s, x, y⟩, g', o', rfl, hs, k0', k1, k2, k3, hxb⟩)
    subst hqs
    refine ⟨some a, qs, cap, rfl, hl, hm, fun j q hj => ?_⟩
    obtain ⟨g, o, rfl, q⟩ := hall j q hj
    exact ⟨g, o, rfl, q⟩
end
end Go.Proofs.Ytbldognffppeiaa
