/- net.New, walked: the check of the files' sizes. -/
import Derived.Test.YtbldognffppeiaaNetOf
import Derived.Test.YtbldognffppeiaaShelf
import Derived.Outline
namespace Go.Proofs.Ytbldognffppeiaa
open Go.RowKit Go.Maps
set_option linter.unusedSimpArgs false
set_option linter.unusedVariables false
/-- The list of files that lies at A. -/
def FilesIn (w : World) (A : Option Addr) (fs : List (ByteArray × List UInt8)) : Prop :=
  ∀ (j : Nat) (f : ByteArray × List UInt8), fs[j]? = some f → ∃ g Aj cj, A = some ⟨g, 0, none⟩ ∧ w.cell? ⟨g, j * 2, none⟩ = some (.string f.1) ∧ w.cell? ⟨g, j * 2 + 1, none⟩ = some (.slice Aj f.2.length cj) ∧ f.2.length ≤ cj ∧ cj ≤ maxLen ∧ f.1.size ≤ maxLen ∧ ReadsB w Aj f.2
theorem FilesIn.below {w w1 : World} {A : Option Addr} {fs : List (ByteArray × List UInt8)} (h : FilesIn w A fs) (hb : Below w.heap.size w w1) : FilesIn w1 A fs := fun j f hj => by
  obtain ⟨g, Aj, cj, h1, h2, h3, h4, h5, h6, h7⟩ := h j f hj
  exact ⟨g, Aj, cj, h1, (hb.cell (World.block_lt_of_cell? w _ h2)).trans h2, (hb.cell (World.block_lt_of_cell? w _ h3)).trans h3, h4, h5, h6, h7.below hb⟩
theorem ret_bool {a b : Bool} (h : a = b) : Ending.returned (.bool a) = .returned (.bool b) := by rw [h]
set_option maxHeartbeats 1000000 in
theorem big_any (nm : ByteArray) (A : Option Addr) (n c : Nat) (hn : n ≤ maxLen) (w : World) : Calls Try.prog 18 #[.agg #[.string nm, .slice A n c]] w fun e w' => e = .returned (.bool (decide (1048576 < n))) ∧ Below w.heap.size w w' := by
  unfold maxLen at hn
  have hd : Hid (decide ((1048576 : Int) < (n : Int)) = decide (1048576 < n)) := by
    have : ((1048576 : Int) < (n : Int)) ↔ 1048576 < n := by omega
    simp [Hid, this]
  go_enter Try.func18, Try.ntmps18
  go_wp2_with fail
  go_ret
  exact ⟨ret_bool hd.out, (Below.refl _ _).alloc (Nat.le_refl _) _⟩
def anyBig (fs : List (ByteArray × List UInt8)) : Bool := fs.any fun f => decide (1048576 < f.2.length)
theorem anyBig_step (fs : List (ByteArray × List UInt8)) (k : Nat) (f : ByteArray × List UInt8) (h : fs[k]? = some f) (hb : anyBig (fs.take k) = false) (hf : decide (1048576 < f.2.length) = false) : anyBig (fs.take (k + 1)) = false := by
  rw [List.take_add_one, h]
  unfold anyBig at hb ⊢
  simp [List.any_append, hb]
  simpa using hf
theorem anyBig_hit (fs : List (ByteArray × List UInt8)) (k : Nat) (f : ByteArray × List UInt8) (h : fs[k]? = some f) (hf : decide (1048576 < f.2.length) = true) : anyBig fs = true := by
  unfold anyBig
  exact List.any_eq_true.2 ⟨f, List.mem_of_getElem? h, hf⟩
def IndexSays (fs : List (ByteArray × List UInt8)) (e : Ending) : Prop := ∃ n : Int, e = .returned (.int .i64 n) ∧ decide (0 ≤ n) = anyBig fs
set_option maxHeartbeats 4000000 in
set_option maxRecDepth 100000 in
theorem index_any (A : Option Addr) (fs : List (ByteArray × List UInt8)) (c : Nat) (hn : fs.length ≤ maxLen) (w : World) (h : FilesIn w A fs) :
    Calls Try.prog 21 #[.slice A fs.length c, .func (.func 18) #[] #[]] w fun e w' => IndexSays fs e ∧ Below w.heap.size w w' := by
  have HF := Lib.hid h
  have hb0 := Lib.hid (Below.refl w.heap.size w)
  obtain ⟨len, hlen⟩ : ∃ len, Hid (len = fs.length) := ⟨_, rfl⟩
  rw [← hlen.out] at hn ⊢
  unfold maxLen at hn
  clear h
  go_enter Try.func21, Try.ntmps21
  go_wp2_with fail
  go_loopw [8] (fun t8 wr => ∃ k : Nat, t8 = .int .i64 k ∧ k ≤ len ∧ Hid (anyBig (fs.take k) = false) ∧ Hid (Below w.heap.size w wr)) (fun t8 _ => len - (intOf t8).toNat)
  case atStart => exact ⟨0, rfl, by omega, rfl, hb0⟩
  case round =>
    clear hb0
    obtain ⟨k, rfl, hk, ha, hb⟩ := hrel
    by_cases hlt : k < len
    · obtain ⟨f, hf⟩ : ∃ f, Hid (fs[k]? = some f) := ⟨_, List.getElem?_eq_getElem (by have := hlen.out; omega)⟩
      obtain ⟨g, Aj, cj, rfl, q2, q3, q4, q5, q6, q7⟩ := HF.out k f hf.out
      have n1 : wr.cell? ⟨g, k * 2, none⟩ = some (.string f.1) := (hb.out.cell (World.block_lt_of_cell? w _ q2)).trans q2
      have n2 : wr.cell? ⟨g, k * 2 + 1, none⟩ = some (.slice Aj f.2.length cj) := (hb.out.cell (World.block_lt_of_cell? w _ q3)).trans q3
      have hfl : f.2.length ≤ maxLen := by omega
      have c1 : (k : Int) < (len : Int) := by omega
      have c2 : (0 : Int) ≤ (k : Int) := by omega
      clear q2 q3 q7
      cases hd : decide (1048576 < f.2.length)
      · go_wp2_with (go_at_call 18; refine (big_any _ _ _ _ hfl _).mono ?_; rintro e w2 ⟨rfl, hb2⟩; have HB2 := Lib.hid hb2; clear hb2; rw [hd])
        refine ⟨⟨k + 1, by first | rfl | simp, by omega, anyBig_step fs k f hf.out ha.out hd, below_step' hb.out HB2.out⟩, by simp [intOf]; omega⟩
      · go_wp2_with (go_at_call 18; refine (big_any _ _ _ _ hfl _).mono ?_; rintro e w2 ⟨rfl, hb2⟩; have HB2 := Lib.hid hb2; clear hb2; rw [hd])
        go_ret
        refine ⟨⟨(k : Int), rfl, ?_⟩, below_step' hb.out HB2.out⟩
        rw [anyBig_hit fs k f hf.out hd]
        simp
    · have c1 : ¬ (k : Int) < (len : Int) := by omega
      go_wp2_with fail
      go_ret
      refine ⟨⟨-1, rfl, ?_⟩, hb.out⟩
      have h := ha.out
      rw [List.take_of_length_le (by have := hlen.out; omega)] at h
      rw [h]
      rfl
/-- slices.ContainsFunc. -/
theorem contains_any (A : Option Addr) (fs : List (ByteArray × List UInt8)) (c : Nat) (hn : fs.length ≤ maxLen) (w : World) (h : FilesIn w A fs) :
    Calls Try.prog 17 #[.slice A fs.length c, .func (.func 18) #[] #[]] w fun e w' => e = .returned (.bool (anyBig fs)) ∧ Below w.heap.size w w' := by
  have HF := Lib.hid h
  clear h
  go_enter Try.func17, Try.ntmps17
  go_wp2_with (go_at_call 21; refine (index_any A fs c hn _ HF.out).mono ?_; rintro e w1 ⟨⟨n, rfl, hn1⟩, hb⟩; have HB := Lib.hid hb; have HN1 := Lib.hid hn1; clear hb hn1)
  go_ret
  exact ⟨ret_bool HN1.out, HB.out⟩
end Go.Proofs.Ytbldognffppeiaa
