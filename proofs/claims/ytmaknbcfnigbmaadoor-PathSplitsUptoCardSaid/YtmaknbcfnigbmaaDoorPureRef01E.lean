/- What the reference's Decode of layer 1 answers: the bytes whose signs a text is, or none. -/
import Derived.Test.YtmaknbcfnigbmaaDoorPureRef01D
namespace Go.Proofs.YtmaknbcfnigbmaaDoor.Ref01
set_option linter.unusedSimpArgs false
open Go.RowKit Go.Proofs.YtmaknbcfnigbmaaDoor.Sig Go.Proofs.YtmaknbcfnigbmaaDoor.PBitsSigns Go.Proofs.YtmaknbcfnigbmaaDoorW.PrintWords Go.Proofs.YtmaknbcfnigbmaaDoorW.PrintLast Go.Proofs.YtmaknbcfnigbmaaDoorW.PrintMore

/-- What Decode answers. -/
def DecIs (sl : List UInt8) (r : List Int × Int) : Prop := (∃ acc, enc acc = sl ∧ r = (ints acc, 0)) ∨ ((∀ acc, enc acc ≠ sl) ∧ r = (([] : List Int), 10))

theorem bt_list (sl : List UInt8) (i : Nat) (h : i < sl.length) : bt (⟨sl.toArray⟩ : ByteArray) (i : Int) = (sl[i].toNat : Int) := by
  have h2 : ((i : Int)).toNat < (⟨sl.toArray⟩ : ByteArray).size := by rw [Int.toNat_natCast]; exact h
  unfold bt
  rw [dif_pos h2]
  show (((sl.toArray)[((i : Int)).toNat]'h2).toNat : Int) = _
  simp
theorem getD_five (sl : List UInt8) (i : Nat) (h : i < sl.length) (j : Nat) (hj : j < 5) : (decBits sl).getD (5 * i + j) false = (toBits 5 (sv sl[i])).getD j false := by
  induction sl generalizing i with
  | nil => simp at h
  | cons c sl ih =>
    rw [decBits_cons]
    cases i with
    | zero =>
      rw [List.getD_eq_getElem?_getD, List.getElem?_append_left (by rw [toBits_length]; omega), ← List.getD_eq_getElem?_getD]
      simp
    | succ i =>
      rw [List.getD_eq_getElem?_getD, List.getElem?_append_right (by rw [toBits_length]; omega), toBits_length, ← List.getD_eq_getElem?_getD]
      rw [show 5 * (i + 1) + j - 5 = 5 * i + j by omega]
      exact ih i (by simpa using h)
theorem out_take (out : List UInt8) (D : List Bool) (p : Nat) (hp : 8 * out.length ≤ p) (hD : 8 * out.length ≤ D.length) (h : OutOk out D p) : bitsOf out = D.take (8 * out.length) := by
  apply List.ext_getElem
  · rw [bitsOf_length, List.length_take, Nat.min_eq_left hD]
  · intro i h1 h2
    rw [bitsOf_length] at h1
    have := h i h1
    rw [show decide (i < p) = true from by simpa using Nat.lt_of_lt_of_le h1 hp, Bool.true_and] at this
    rw [List.getElem_take]
    rw [List.getD_eq_getElem?_getD, List.getD_eq_getElem?_getD, List.getElem?_eq_getElem (by rw [bitsOf_length]; exact h1), List.getElem?_eq_getElem (by omega)] at this
    simpa using this
theorem sum_enc (acc sl : List UInt8) (h : enc acc = sl) : acc.length = sl.length * 5 / 8 := by
  have := congrArg List.length h
  rw [enc_length] at this
  omega
theorem decode_l0 (sl : List UInt8) (hs : sl.length ≤ 70368744177664) : ∀ (d i k : Nat) (out : List UInt8), i + d = sl.length → out.length = sl.length * 5 / 8 → OutOk out (decBits sl) (5 * i) → 7 * d + 14 * (sl.length * 5 / 8) + 49 ≤ k →
    ∃ r, stillroomref01_Decode.l0 k ⟨sl.toArray⟩ (ints out) (i : Int) = some r ∧ DecIs sl r := by
  intro d
  induction d with
  | zero =>
    intro i k out hi ho hO hk
    obtain ⟨k, rfl⟩ : ∃ m, k = m + 1 := ⟨k - 1, by omega⟩
    have hsz : ((⟨sl.toArray⟩ : ByteArray).size : Int) = (sl.length : Int) := rfl
    simp only [stillroomref01_Decode.l0]
    rw [hsz, if_neg (by omega), encode_f out (by omega) k (by omega), Option.bind_some]
    have hb := out_take out (decBits sl) (5 * i) (by omega) (by rw [decBits_length]; omega) hO
    have ht : (⟨(enc out).toArray⟩ : ByteArray).toList = enc out := ByteArray.toList_eq _
    have ht2 : (⟨sl.toArray⟩ : ByteArray).toList = sl := ByteArray.toList_eq _
    rw [ht, ht2]
    by_cases he : enc out = sl
    · rw [if_pos he]
      exact ⟨_, rfl, Or.inl ⟨out, he, rfl⟩⟩
    · rw [if_neg he]
      refine ⟨_, rfl, Or.inr ⟨fun acc ha => he ?_, rfl⟩⟩
      have hal := sum_enc acc sl ha
      have hbb := decBits_enc acc
      rw [ha] at hbb
      rw [hbb, ho, ← hal, ← bitsOf_length acc, List.take_left'] at hb
      · rw [bitsOf_inj out acc hb]; exact ha
      · rfl
  | succ d ih =>
    intro i k out hi ho hO hk
    obtain ⟨k, rfl⟩ : ∃ m, k = m + 7 := ⟨k - 7, by omega⟩
    have hsz : ((⟨sl.toArray⟩ : ByteArray).size : Int) = (sl.length : Int) := rfl
    have hil : i < sl.length := by omega
    rw [show k + 7 = (k + 6) + 1 by omega]
    generalize hK : k + 6 = K
    simp only [stillroomref01_Decode.l0]
    rw [hsz, if_pos (by omega), if_pos (by omega), bt_list sl i hil, sign_f _ K (by omega), Option.bind_some]
    unfold signOf
    by_cases hv : sv sl[i] < 32
    · rw [if_pos hv, if_neg (by omega)]
      obtain ⟨out', hl, hO', hr⟩ := sign_bits ⟨sl.toArray⟩ (decBits sl) i (sv sl[i]) k (by omega) hv (fun j hj => getD_five sl i hil j hj) 5 0 out rfl hO
      obtain ⟨r, h1, h2⟩ := ih (i + 1) k out' (by omega) (by omega) (by rw [show 5 * (i + 1) = 5 * i + 5 by omega]; exact hO') (by omega)
      refine ⟨r, ?_, h2⟩
      rw [← hK]
      exact hr.trans h1
    · rw [if_neg hv, if_pos (by decide)]
      refine ⟨_, rfl, Or.inr ⟨fun acc ha => hv ?_, rfl⟩⟩
      exact enc_valid acc _ (by rw [ha]; exact List.getElem_mem hil)
theorem decode_f (sl : List UInt8) (hs : sl.length ≤ 70368744177664) (k : Nat) (hk : 7 * sl.length + 14 * (sl.length * 5 / 8) + 49 ≤ k) :
    ∃ r, stillroomref01_Decode.f k ⟨sl.toArray⟩ = some r ∧ DecIs sl r := by
  have hsz : ((⟨sl.toArray⟩ : ByteArray).size : Int) = (sl.length : Int) := rfl
  have e : wrap64 (Int.tdiv (wrap64 ((sl.length : Int) * 5)) 8) = ((sl.length * 5 / 8 : Nat) : Int) := by
    have : wrap64 ((sl.length : Int) * 5) = ((sl.length * 5 : Nat) : Int) := by unfold wrap64; omega
    rw [this, Int.tdiv_eq_ediv_of_nonneg (by omega)]; unfold wrap64; omega
  unfold stillroomref01_Decode.f
  rw [hsz, e, if_pos (by omega), if_pos (by omega), Int.toNat_natCast]
  have h0 : (List.replicate (sl.length * 5 / 8) 0 : List Int) = ints (List.replicate (sl.length * 5 / 8) 0) := by simp [ints]
  rw [h0]
  refine decode_l0 sl hs sl.length 0 k _ (by omega) (by simp) ?_ hk
  intro i hi
  rw [List.length_replicate] at hi
  rw [show decide (i < 5 * 0) = false by simp, Bool.false_and]
  have := bit_at (List.replicate (sl.length * 5 / 8) 0) (i / 8) (i % 8) (by simp; omega) (Nat.mod_lt _ (by decide))
  rw [show 8 * (i / 8) + i % 8 = i by omega] at this
  rw [this]
  simp
end Go.Proofs.YtmaknbcfnigbmaaDoor.Ref01
