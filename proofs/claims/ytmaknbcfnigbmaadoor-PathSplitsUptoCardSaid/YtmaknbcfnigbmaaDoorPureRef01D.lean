/- What the reference's Decode of layer 1 tells, off its printed function: the bytes whose signs a text is, or none. -/
import Derived.Test.YtmaknbcfnigbmaaDoorPureRef01
namespace Go.Proofs.YtmaknbcfnigbmaaDoor.Ref01
set_option linter.unusedSimpArgs false
open Go.RowKit Go.Proofs.YtmaknbcfnigbmaaDoor.Sig Go.Proofs.YtmaknbcfnigbmaaDoor.PBitsSigns Go.Proofs.YtmaknbcfnigbmaaDoorW.PrintWords Go.Proofs.YtmaknbcfnigbmaaDoorW.PrintLast Go.Proofs.YtmaknbcfnigbmaaDoorW.PrintMore

def signOf (c : UInt8) : Int := if sv c < 32 then (sv c : Int) else -1
theorem sign_fin : ∀ c : Fin 256, stillroomref01_sign.f 40 ((c.val : Nat) : Int) = some (signOf (UInt8.ofNat c.val)) := by decide +kernel
theorem sign_f (c : UInt8) (k : Nat) (hk : 40 ≤ k) : stillroomref01_sign.f k (c.toNat : Int) = some (signOf c) := by
  have h := sign_fin ⟨c.toNat, c.toNat_lt⟩
  rw [UInt8.ofNat_toNat] at h
  obtain ⟨d, rfl⟩ : ∃ d, k = 40 + d := ⟨k - 40, by omega⟩
  clear hk
  induction d with
  | zero => exact h
  | succ d ih => exact stillroomref01_sign.mono _ _ _ ih

theorem add_bit_fin : ∀ (a : Fin 256) (e e' : Fin 8), a.val / 2 ^ e.val % 2 = 0 → a.val + 2 ^ e.val < 256 ∧ ((a.val + 2 ^ e.val) / 2 ^ e'.val % 2 == 1) = (if e' = e then true else (a.val / 2 ^ e'.val % 2 == 1)) := by decide +kernel
theorem set_bit (out : List UInt8) (q r : Nat) (hq : q < out.length) (hr : r < 8) (hz : (bitsOf out).getD (8 * q + r) false = false) :
    out[q].toNat + 2 ^ (7 - r) < 256 ∧ ∀ i, i < 8 * out.length → (bitsOf (out.set q (UInt8.ofNat (out[q].toNat + 2 ^ (7 - r))))).getD i false = if i = 8 * q + r then true else (bitsOf out).getD i false := by
  rw [bit_at out q r hq hr] at hz
  have h0 : out[q].toNat / 2 ^ (7 - r) % 2 = 0 := by
    have := beq_eq_false_iff_ne.mp hz
    omega
  have hfin := fun e' : Fin 8 => add_bit_fin ⟨out[q].toNat, UInt8.toNat_lt _⟩ ⟨7 - r, by omega⟩ e' h0
  have hlt : out[q].toNat + 2 ^ (7 - r) < 256 := (hfin 0).1
  refine ⟨hlt, fun i hi => ?_⟩
  have hi8 : i = 8 * (i / 8) + i % 8 := by omega
  have hq2 : i / 8 < out.length := by omega
  have hq3 : i / 8 < (out.set q (UInt8.ofNat (out[q].toNat + 2 ^ (7 - r)))).length := by rw [List.length_set]; exact hq2
  have hr2 : i % 8 < 8 := Nat.mod_lt _ (by decide)
  have hset := bit_at (out.set q (UInt8.ofNat (out[q].toNat + 2 ^ (7 - r)))) (i / 8) (i % 8) hq3 hr2
  have hold := bit_at out (i / 8) (i % 8) hq2 hr2
  rw [← hi8] at hset hold
  rw [hset, hold]
  by_cases he : i / 8 = q
  · have hv : ((out.set q (UInt8.ofNat (out[q].toNat + 2 ^ (7 - r))))[i / 8]'hq3).toNat = out[q].toNat + 2 ^ (7 - r) := by
      rw [List.getElem_set]
      rw [if_pos he.symm, UInt8.toNat_ofNat']
      exact Nat.mod_eq_of_lt hlt
    have ho : (out[i / 8]'hq2) = out[q] := by
      congr 1
    rw [hv, ho]
    have h2 := (hfin ⟨7 - i % 8, by omega⟩).2
    simp only at h2
    rw [h2]
    by_cases hrr : i % 8 = r
    · rw [if_pos (by congr 1; omega), if_pos (by omega)]
    · rw [if_neg (by intro h; injection h with h; omega), if_neg (by omega)]
  · have hv : ((out.set q (UInt8.ofNat (out[q].toNat + 2 ^ (7 - r))))[i / 8]'hq3) = out[i / 8] := by
      rw [List.getElem_set, if_neg (fun h => he h.symm)]
    rw [hv, if_neg (by omega)]

/-- The bytes laid so far: the first p bits of the signs', and none behind them. -/
def OutOk (out : List UInt8) (D : List Bool) (p : Nat) : Prop := ∀ i, i < 8 * out.length → (bitsOf out).getD i false = (decide (i < p) && D.getD i false)

theorem five_bit : ∀ (v : Fin 32) (j : Fin 5), (toBits 5 v.val).getD j.val false = (v.val / 2 ^ (4 - j.val) % 2 == 1) := by decide
/-- One sign: its five bits. -/
theorem sign_bits (s : ByteArray) (D : List Bool) (i v k : Nat) (hi : i < 1125899906842624) (hv : v < 32) (hD : ∀ j, j < 5 → D.getD (5 * i + j) false = (toBits 5 v).getD j false) :
    ∀ (d j : Nat) (out : List UInt8), j + d = 5 → OutOk out D (5 * i + j) →
      ∃ out', out'.length = out.length ∧ OutOk out' D (5 * i + 5) ∧ stillroomref01_Decode.l1 (k + d + 1) s (ints out) (i : Int) (v : Int) (j : Int) = stillroomref01_Decode.l0 k s (ints out') ((i + 1 : Nat) : Int) := by
  intro d
  induction d with
  | zero =>
    intro j out hj hO
    refine ⟨out, rfl, by rw [show 5 * i + 5 = 5 * i + j by omega]; exact hO, ?_⟩
    simp only [stillroomref01_Decode.l1]
    have e : wrap64 ((i : Int) + 1) = ((i + 1 : Nat) : Int) := by unfold wrap64; omega
    rw [if_neg (by omega), e]
  | succ d ih =>
    intro j out hj hO
    have hj5 : j < 5 := by omega
    have e1 : wrap64 (wrap64 (5 * (i : Int)) + (j : Int)) = ((5 * i + j : Nat) : Int) := by unfold wrap64; omega
    have e2 : wrap64 (Int.tdiv ((5 * i + j : Nat) : Int) 8) = (((5 * i + j) / 8 : Nat) : Int) := by
      rw [Int.tdiv_eq_ediv_of_nonneg (by omega)]; unfold wrap64; omega
    have e3 : wrap64 ((j : Int) + 1) = ((j + 1 : Nat) : Int) := by unfold wrap64; omega
    have uw : ∀ x : Int, IntKind.u64.wrap x = x % 18446744073709551616 := by intro x; simp [IntKind.wrap, IntKind.bits, IntKind.signed]
    have e4 : IntKind.u64.wrap (wrap64 (4 - (j : Int))) = ((4 - j : Nat) : Int) := by rw [uw]; unfold wrap64; omega
    have e5 : Int.tmod ((5 * i + j : Nat) : Int) 8 = (((5 * i + j) % 8 : Nat) : Int) := by rw [Int.tmod_eq_emod_of_nonneg (by omega)]; omega
    have e6 : IntKind.u64.wrap (wrap64 (7 - (((5 * i + j) % 8 : Nat) : Int))) = ((7 - (5 * i + j) % 8 : Nat) : Int) := by rw [uw]; unfold wrap64; omega
    have e7 : Int.tmod (shr .i64 (v : Int) ((4 - j : Nat) : Int)) 2 = ((v / 2 ^ (4 - j) % 2 : Nat) : Int) := by
      unfold shr
      rw [Int.toNat_natCast, Nat.min_eq_left (by show 4 - j ≤ 64; omega)]
      have : (v : Int) / 2 ^ (4 - j) = ((v / 2 ^ (4 - j) : Nat) : Int) := by simp
      rw [this, Int.tmod_eq_emod_of_nonneg (Int.natCast_nonneg _)]
      generalize v / 2 ^ (4 - j) = q
      omega
    have hDj := hD j hj5
    have hfb := five_bit ⟨v, hv⟩ ⟨j, hj5⟩
    simp only at hfb
    rw [hfb] at hDj
    rw [show k + (d + 1) + 1 = (k + d + 1) + 1 by omega]
    generalize hK : k + d + 1 = K at ih ⊢
    simp only [stillroomref01_Decode.l1]
    rw [if_pos (by omega), e1, e2, e3, e4, e5, e6, e7, ints_length]
    have keep : OutOk out D (5 * i + j + 1) → ∃ out', out'.length = out.length ∧ OutOk out' D (5 * i + 5) ∧ stillroomref01_Decode.l1 K s (ints out) (i : Int) (v : Int) ((j + 1 : Nat) : Int) = stillroomref01_Decode.l0 k s (ints out') ((i + 1 : Nat) : Int) :=
      fun h => ih (j + 1) out (by omega) h
    by_cases hin : (5 * i + j) / 8 < out.length
    · rw [if_pos (by omega), if_pos (by omega)]
      by_cases hbit : v / 2 ^ (4 - j) % 2 = 1
      · have hz : (bitsOf out).getD (8 * ((5 * i + j) / 8) + (5 * i + j) % 8) false = false := by
          rw [show 8 * ((5 * i + j) / 8) + (5 * i + j) % 8 = 5 * i + j by omega, hO (5 * i + j) (by omega)]
          simp
        obtain ⟨hlt, hset⟩ := set_bit out ((5 * i + j) / 8) ((5 * i + j) % 8) hin (Nat.mod_lt _ (by decide)) hz
        rw [show 8 * ((5 * i + j) / 8) + (5 * i + j) % 8 = 5 * i + j by omega] at hset
        have hO2 : OutOk (out.set ((5 * i + j) / 8) (UInt8.ofNat (out[(5 * i + j) / 8].toNat + 2 ^ (7 - (5 * i + j) % 8)))) D (5 * i + (j + 1)) := by
          intro x hx
          rw [List.length_set] at hx
          rw [hset x hx]
          by_cases hxe : x = 5 * i + j
          · rw [if_pos hxe, hxe, hDj, hbit]
            simp
          · rw [if_neg hxe, hO x hx]
            congr 1
            rw [decide_eq_decide]
            omega
        obtain ⟨out', hl', ho', hr'⟩ := ih (j + 1) _ (by omega) hO2
        rw [List.length_set] at hl'
        refine ⟨out', hl', ho', ?_⟩
        rw [← hr']
        rw [if_pos (by rw [hbit]; rfl), if_pos (by omega), if_pos (by omega), Int.toNat_natCast, rd_ints out _ hin]
        congr 1
        have e8 : shl .u8 1 ((7 - (5 * i + j) % 8 : Nat) : Int) = ((2 ^ (7 - (5 * i + j) % 8) : Nat) : Int) := by
          unfold shl
          rw [Int.toNat_natCast, Nat.min_eq_left (by show 7 - (5 * i + j) % 8 ≤ 8; omega), IntKind.wrap_u8, Int.one_mul]
          have h128 : 2 ^ (7 - (5 * i + j) % 8) ≤ 2 ^ 7 := Nat.pow_le_pow_right (by decide) (by omega)
          have e9 : (2 : Int) ^ (7 - (5 * i + j) % 8) = ((2 ^ (7 - (5 * i + j) % 8) : Nat) : Int) := by simp
          rw [e9]
          clear hlt hset hO2 hbit hDj e7
          generalize 2 ^ (7 - (5 * i + j) % 8) = y at h128 ⊢
          omega
        rw [e8]
        unfold ints
        rw [List.map_set, UInt8.toNat_ofNat', Nat.mod_eq_of_lt hlt]
        congr 1
        have hlt' := hlt
        clear hlt hset hO2 hbit hDj e7 e8
        generalize 2 ^ (7 - (5 * i + j) % 8) = y at hlt' ⊢
        omega
      · rw [if_neg (by clear hDj e7; generalize v / 2 ^ (4 - j) % 2 = y at hbit ⊢; omega)]
        apply keep
        intro x hx
        rw [hO x hx]
        by_cases hxe : x = 5 * i + j
        · rw [hxe, hDj]
          have : (v / 2 ^ (4 - j) % 2 == 1) = false := beq_eq_false_iff_ne.mpr hbit
          rw [this]; simp
        · congr 1
          rw [decide_eq_decide]
          omega
    · rw [if_neg (by omega)]
      apply keep
      intro x hx
      rw [hO x hx]
      congr 1
      rw [decide_eq_decide]
      omega
end Go.Proofs.YtmaknbcfnigbmaaDoor.Ref01
