/- AtermBack: the plain law. -/
import Derived.Test.YtbldognffppeiaaDoorAtParse
import Derived.Test.YtbldognffppeiaaDoorAtRefPut
namespace Go.Proofs.YtbldognffppeiaaDoor
open Go.RowKit Quo
set_option linter.unusedSimpArgs false
set_option linter.unusedVariables false
theorem elems_mem {α : Type} (tell : α → List UInt8) : ∀ (l : List α) (first : Bool) (x : α), x ∈ l → (tell x).length ≤ (elems tell first l).length := by
  intro l
  induction l with
  | nil => intro first x h; cases h
  | cons y l ih =>
    intro first x h
    rw [elems_cons, List.length_append, List.length_append]
    rcases List.mem_cons.1 h with rfl | h
    · omega
    · have := ih false x h
      omega
theorem join_mem {α : Type} (tell : α → List UInt8) {l : List α} {x : α} (h : x ∈ l) : (tell x).length ≤ (joinC (l.map tell)).length := elems_mem tell l true x h
theorem quoS_ge (s : ByteArray) : s.size + 2 ≤ (quoS s).length := by
  unfold quoS
  rw [quo_length]
  have := (body_length s.data.toList).1
  have h2 : s.data.toList.length = s.size := by simp
  omega
theorem listD_mem {l : List ByteArray} {s : ByteArray} (h : s ∈ l) : s.size ≤ (listD l).length := by
  unfold listD
  rw [List.length_append, List.length_append]
  have h1 := join_mem quoS h
  have h2 := quoS_ge s
  omega
theorem sized_of_text {d : Drv} (h : (textD d).length ≤ 1048576) : Sized d := by
  unfold textD at h
  simp only [List.length_append] at h
  refine ⟨fun x hx => ?_, fun x hx => ?_, fun x hx => ?_, ?_, ?_, fun x hx => ?_, fun x hx => ?_⟩
  · have h1 := join_mem outD hx
    have h3 : (quoS x.1).length + (quoS x.2.1).length + (quoS x.2.2).length ≤ (outD x).length := by unfold outD; simp only [List.length_append]; omega
    have a := quoS_ge x.1
    have b := quoS_ge x.2.1
    have c := quoS_ge x.2.2
    refine ⟨?_, ?_, ?_⟩ <;> omega
  · have h1 := join_mem inD hx
    have h3 : (quoS x.1).length + (listD x.2).length ≤ (inD x).length := by unfold inD; simp only [List.length_append]; omega
    have a := quoS_ge x.1
    refine ⟨by omega, fun s hs => ?_⟩
    have b := listD_mem hs
    omega
  · have := listD_mem hx; omega
  · have := quoS_ge d.sys; omega
  · have := quoS_ge d.bld; omega
  · have := listD_mem hx; omega
  · have h1 := join_mem envD hx
    have h3 : (quoS x.1).length + (quoS x.2).length ≤ (envD x).length := by unfold envD; simp only [List.length_append]; omega
    have a := quoS_ge x.1
    have b := quoS_ge x.2
    refine ⟨?_, ?_⟩ <;> omega
theorem parseD_text (d : Drv) : parseD (textD d) = some d := by
  have h := (rdD_reads (textD d) d []).2 (by simp)
  unfold parseD
  rw [h]
  rfl
theorem tx_list (l : List UInt8) : (tx l).data.toList = l := rfl
/-- A derivation's text is read as it. -/
theorem back_put {d : Drv} (h : putE d = 0) : parseE (putT d) = 0 ∧ parseV (putT d) = d := by
  have hT : putT d = tx (textD d) := by unfold putT; rw [if_pos h]
  have hr : rightE d = 0 := by
    unfold putE at h
    by_cases hr : rightE d = 0
    · exact hr
    · rw [if_neg hr] at h; exact absurd h hr
  have hb : ¬ 1048576 < (textD d).length := fun hb => by
    unfold putE at h
    rw [if_pos hr, if_pos hb] at h
    cases h
  have hp : parseD (putT d).data.toList = some d := by rw [hT, tx_list]; exact parseD_text d
  have hs : ¬ 1048576 < (putT d).size := by rw [hT, tx_size]; exact hb
  obtain ⟨h1, h2⟩ := parsed_good hs hp hr
  exact ⟨h2.symm, h1.symm⟩
/-- A text that is read is its derivation's. -/
theorem back_parse {s : ByteArray} (h : parseE s = 0) : putE (parseV s) = 0 ∧ putT (parseV s) = s ∧ Sized (parseV s) := by
  have h1 : ¬ 1048576 < s.size := fun hb => by
    unfold parseE at h
    rw [if_pos hb] at h
    cases h
  have hE := h
  unfold parseE at h
  rw [if_neg h1] at h
  cases hp : parseD s.data.toList with
  | none => rw [hp] at h; cases h
  | some d =>
    rw [hp] at h
    have hV : parseV s = d := by unfold parseV; rw [if_pos hE, hp]; rfl
    have hr : rightE d = 0 := h
    have hrd : rdD s.data.toList = some (d, []) := by
      unfold parseD at hp
      obtain ⟨p, hp1, hp2⟩ := Option.bind_eq_some_iff.1 hp
      by_cases he : p.2 = []
      · rw [if_pos he] at hp2
        injection hp2 with hp2
        rw [hp1, ← hp2, ← he]
      · rw [if_neg he] at hp2; cases hp2
    have htext : s.data.toList = textD d := by
      have := (rdD_reads _ _ _).1 hrd
      simpa using this
    have hlen : (textD d).length = s.size := by rw [← htext]; simp
    have hE2 : putE d = 0 := by unfold putE; rw [if_pos hr, if_neg (by rw [hlen]; exact h1)]
    rw [hV]
    refine ⟨hE2, ?_, sized_of_text (by rw [hlen]; omega)⟩
    unfold putT
    rw [if_pos hE2, ← htext]
    exact tx_toList s
theorem back_empty {s : ByteArray} (h : parseE s ≠ 0) : parseV s = emptyD := by unfold parseV; rw [if_neg h]
/-- The one derivation of the law's own. -/
def oneD : Drv := ⟨[(⟨#[111, 117, 116]⟩, ⟨#[47, 115, 116, 111, 114, 101, 47, 120]⟩, ⟨#[]⟩)], [], [], ⟨#[115]⟩, ⟨#[98]⟩, [], []⟩
theorem one_right : rightE oneD = 0 := by
  unfold rightE
  rw [if_neg, if_pos (by decide)]
  rintro (h | ⟨j, x, hj, _⟩)
  · unfold big0 oneD at h
    simp at h
  · simp [oneD] at hj
theorem one_put : putE oneD = 0 ∧ putT oneD = ⟨#[68, 101, 114, 105, 118, 101, 40, 91, 40, 34, 111, 117, 116, 34, 44, 34, 47, 115, 116, 111, 114, 101, 47, 120, 34, 44, 34, 34, 41, 93, 44, 91, 93, 44, 91, 93, 44, 34, 115, 34, 44, 34, 98, 34, 44, 91, 93, 44, 91, 93, 41]⟩ := by
  have hb : ¬ 1048576 < (textD oneD).length := by decide
  have h0 : putE oneD = 0 := by unfold putE; rw [if_pos one_right, if_neg hb]
  refine ⟨h0, ?_⟩
  unfold putT
  rw [if_pos h0]
  rfl
theorem one_sized : Sized oneD := sized_of_text (by decide)
end Go.Proofs.YtbldognffppeiaaDoor
