/- bits.Decode, walked: it tells the bytes whose signs the text is, or that there are none. Conditions: the table of the counts holds what its initialiser lays; at most 2^46 bytes. The table of the counts, as the rows lay it. -/
import Derived.Test.YtmaknbcfnigbmaaDoorMem
import Derived.Test.YtmaknbcfnigbmaaDoorPlain
import Derived.Test.YtmaknbcfnigbmaaDoorShelf
import Derived.Lib.IndexLaws
import Derived.OwnWalk
import Derived.Deep.CutBlock
import Derived.Deep.DeepCutAuto
import Derived.Lib.LaidTab
namespace Go.Proofs.YtmaknbcfnigbmaaDoor
open Go.RowKit Sig

/-- The table of the counts. -/
def Tails (w : World) : Prop := ∀ r, r < 5 → w.cell? ⟨0, r, none⟩ = some (.int .i64 (tailOf r : Int))
theorem Tails.below {w w1 : World} (h : Tails w) (hb : Below w.heap.size w w1) : Tails w1 :=
  fun r hr => (hb.cell (World.block_lt_of_cell? w _ (h r hr))).trans (h r hr)
theorem info8 : (Tryd.prog.info? 5).map (fun i => (i.zero, i.size, i.bytes)) = some (some (.int .u8 0), 1, 1) := by kernel_rfl

/-- Where a sign stands. -/
theorem sign_at (c : UInt8) : Lib.indexByte signs c = if sv c < 32 then (sv c : Int) else -1 := by
  have hall : ∀ c : Fin 256, Lib.indexByte signs (UInt8.ofNat c.val) = if sv (UInt8.ofNat c.val) < 32 then (sv (UInt8.ofNat c.val) : Int) else -1 := by decide +kernel
  have h := hall ⟨c.toNat, c.toNat_lt⟩
  rw [UInt8.ofNat_toNat] at h
  exact h
theorem sign_call (c : UInt8) (w : World) : Calls Tryd.prog 36 #[.string ⟨#[48, 49, 50, 51, 52, 53, 54, 55, 56, 57, 97, 98, 99, 100, 102, 103, 104, 105, 106, 107, 108, 109, 110, 112, 113, 114, 115, 118, 119, 120, 121, 122]⟩, .int .u8 (c.toNat : Int)] w fun e w' => e = .returned (.int .i64 (if sv c < 32 then (sv c : Int) else -1)) ∧ w = w' := by
  have h := Tryd.strings_IndexByte ⟨#[48, 49, 50, 51, 52, 53, 54, 55, 56, 57, 97, 98, 99, 100, 102, 103, 104, 105, 106, 107, 108, 109, 110, 112, 113, 114, 115, 118, 119, 120, 121, 122]⟩ (c.toNat : Int) w
  have e1 : ((c.toNat : Int)).toNat.toUInt8 = c := by simp
  rw [e1] at h
  rw [← sign_at c]
  exact h.mono fun _ _ ⟨h1, h2⟩ => ⟨h1, h2.symm⟩

/-- What Decode answers: the bytes whose signs the text is, or that there are none. -/
def DecPost (s : ByteArray) (w : World) (e : Ending) (w' : World) : Prop :=
  Below w.heap.size w w' ∧ ((∃ v acc, enc acc = s.data.toList ∧ e = .returned (.tuple #[v, .int .i64 0]) ∧ w'.ownsRow w.heap.size 5 1 v acc.length (Lib.byteCells acc)) ∨ ((∀ acc, enc acc ≠ s.data.toList) ∧ e = .returned (.tuple #[.slice none 0 0, .int .i64 10])))
/-- A sign more is laid into the word. -/
theorem sign_more (h x m : Nat) (hx : x < 32) (hm : m < 8) : ∃ h2 : Nat, h2 < 4294967296 ∧ bits BinOp.or IntKind.u32 ((h : Int) * 32 % 4294967296) (x : Int) = (h2 : Int) ∧ toBits (m + 5) h2 = toBits m h ++ toBits 5 x := by
  refine ⟨h * 32 % 4294967296 + x, by omega, ?_, ?_⟩
  · have e : (h : Int) * 32 % 4294967296 = ((h * 32 % 4294967296 : Nat) : Int) := by omega
    rw [e, u32_or_nat _ _ (by omega) (by omega), nat_join 5 _ _ (by omega) (by omega)]
  · rw [← toBits_join m 5 h x (by omega)]
    apply toBits_congr
    have : m = 0 ∨ m = 1 ∨ m = 2 ∨ m = 3 ∨ m = 4 ∨ m = 5 ∨ m = 6 ∨ m = 7 := by omega
    rcases this with rfl | rfl | rfl | rfl | rfl | rfl | rfl | rfl <;> simp only [Nat.reduceAdd, Nat.reducePow] <;> omega
theorem mask_low32 (h m : Nat) (hh : h < 4294967296) (hm : m < 8) : bits BinOp.and IntKind.u32 (h : Int) ((2 ^ m - 1) % 4294967296) = ((h % 2 ^ m : Nat) : Int) := by
  have e : ((2 : Int) ^ m - 1) % 4294967296 = ((2 ^ m - 1 : Nat) : Int) := by
    have : m = 0 ∨ m = 1 ∨ m = 2 ∨ m = 3 ∨ m = 4 ∨ m = 5 ∨ m = 6 ∨ m = 7 := by omega
    rcases this with rfl | rfl | rfl | rfl | rfl | rfl | rfl | rfl <;> decide
  have hlt : 2 ^ m - 1 < 4294967296 := by
    have : 2 ^ m ≤ 2 ^ 8 := Nat.pow_le_pow_right (by decide) (by omega)
    omega
  rw [e, u32_and_nat _ _ hh hlt, Nat.and_two_pow_sub_one_eq_mod]
theorem eight_of (h m : Nat) : ((h : Int) / 2 ^ m) % 256 = (((UInt8.ofNat (h / 2 ^ m)).toNat : Nat) : Int) := by
  rw [UInt8.toNat_ofNat']
  simp
theorem eight_out (h m : Nat) : toBits (m + 8) h = toBits 8 (UInt8.ofNat (h / 2 ^ m)).toNat ++ toBits m h := by
  rw [Nat.add_comm, toBits_split 8 m h, UInt8.toNat_ofNat']
  congr 1
  exact (toBits_mod 8 _).symm
theorem take_byte (s : ByteArray) (k : Nat) (h : k < s.size) : s.data.toList.take (k + 1) = s.data.toList.take k ++ [s[k]] := by
  rw [List.take_succ_eq_append_getElem (by simpa using h)]; rfl
theorem cells_snoc' (l : List UInt8) (b : UInt8) : Lib.byteCells l ++ [.int .u8 (b.toNat : Int)] = Lib.byteCells (l ++ [b]) := by rw [Lib.byteCells_append]; rfl

set_option maxHeartbeats 2000000 in
set_option maxRecDepth 100000 in
theorem decode_any (s : ByteArray) (w : World) (hT : Tails w) (hs : s.size ≤ 70368744177000) :
    Calls Tryd.prog 14 #[.string s] w (DecPost s w) := by
  obtain ⟨i0, hi, hz0, hz1, hz2⟩ := info_parts info8
  have hlen : s.data.toList.length = s.size := by simp
  obtain ⟨n, hn⟩ : ∃ n, n = s.size * 5 / 8 := ⟨_, rfl⟩
  obtain ⟨r, hr⟩ : ∃ r, r = n % 5 := ⟨_, rfl⟩
  obtain ⟨d, hd⟩ : ∃ d, d = n / 5 := ⟨_, rfl⟩
  obtain ⟨t, ht⟩ : ∃ t, t = tailOf r := ⟨_, rfl⟩
  have hr5 : r < 5 := by omega
  have ht7 : t ≤ 7 := by rw [ht, tailOf_eq r hr5]; omega
  have hc : w.cell? ⟨0, r, none⟩ = some (.int .i64 (t : Int)) := by rw [ht]; exact hT r hr5
  have e1 : (s.size : Int) * 5 / 8 = (n : Int) := by omega
  have e2 : (n : Int) / 5 = (d : Int) := by omega
  have e3 : (n : Int) % 5 = (r : Int) := by omega
  have hd2 : d * 8 ≤ s.size + 8 := by omega
  have hns : n ≤ s.size := by omega
  by_cases hok : d * 8 + t = s.size
  · have hok2 : lenOk s.data.toList.length := by
      rw [hlen]; unfold lenOk; rw [← hn, ← hd, ← hr, ← ht]; exact hok
    have hb : ((d : Int) * 8 + (t : Int) != (s.size : Int)) = false := by
      rw [bne_eq_false_iff_eq]
      omega
    have HOK := Lib.hid hok2
    have H0 := Lib.hid hz0
    have H1 := Lib.hid hz1
    have H2 := Lib.hid hz2
    have HII := Lib.hid hi
    have HE1 := Lib.hid e1
    clear hok hok2 hn hr hd ht hlen hz0 hz1 hz2 hi
    go_enter Tryd.func14, Tryd.ntmps14
    go_upto_region 5 with (refine wpList_make_own w rfl _ _ 22 rfl w.heap.size 5 i0 (.int .u8 0) 1 Tryd.underlying22 HII.out H0.out H1.out .i64 .i64 _ n rfl rfl HE1.out (by rw [H2.out]; omega) (by unfold maxLen; omega) (Nat.le_refl _) ?_; intro w1 hown hgrow)
    have HB1 : Hid (Below w.heap.size w w1) := (Below.refl _ w).grown hgrow (Nat.le_refl _) (by simp)
    have HO1 : Hid (w1.ownsRow w.heap.size 5 1 (.slice (some ⟨w.heap.size, 0, none⟩) 0 n) ([] : List UInt8).length (Lib.byteCells [])) := hown
    clear hown hgrow
    go_wp2_with fail
    go_loopw [5, 6, 7, 29] (fun t5 t6 t7 t29 wr => ∃ (k h m : Nat) (acc : List UInt8), t6 = .int .u32 h ∧ t7 = .int .i64 m ∧ t29 = .int .i64 k ∧ k ≤ s.size ∧ h < 4294967296 ∧ m < 8 ∧ Hid (decBits (s.data.toList.take k) = bitsOf acc ++ toBits m h) ∧ Hid (∀ c ∈ s.data.toList.take k, sv c < 32) ∧ Hid (wr.ownsRow w.heap.size 5 1 t5 acc.length (Lib.byteCells acc)) ∧ Hid (Below w.heap.size w wr)) (fun _ _ _ t29 _ => s.size - (intOf t29).toNat)
    case atStart => exact ⟨0, 0, 0, [], rfl, rfl, rfl, Nat.zero_le _, by decide, by decide, rfl, fun c hc => by simp at hc, HO1, HB1⟩
    case round =>
      clear HB1 HO1
      obtain ⟨k, h, m, acc, rfl, rfl, rfl, hk, hh, hm, HD, HV, HO, HB⟩ := hrel
      by_cases hlt : k < s.size
      · obtain ⟨c, hc⟩ : ∃ c : UInt8, c = s[k] := ⟨_, rfl⟩
        have HTK := Lib.hid (take_byte s k hlt)
        by_cases hval : sv c < 32
        · have HSC : Hid (∀ W, Calls Tryd.prog 36 #[.string ⟨#[48, 49, 50, 51, 52, 53, 54, 55, 56, 57, 97, 98, 99, 100, 102, 103, 104, 105, 106, 107, 108, 109, 110, 112, 113, 114, 115, 118, 119, 120, 121, 122]⟩, .int .u8 (s[k].toNat : Int)] W fun e w' => e = .returned (.int .i64 (sv c : Int)) ∧ W = w') := by
            intro W
            have := sign_call c W
            rw [if_pos hval, hc] at this
            rw [hc]
            exact this
          have HC := Lib.hid hc
          clear hc
          obtain ⟨h2, hh2, he, hs2⟩ := sign_more h (sv c) m hval hm
          have HS2 := Lib.hid hs2
          have hu : (sv c : Int) % 4294967296 = (sv c : Int) := by omega
          clear hs2
          go_wp2_with fail
          refine (HSC.out _).mono ?_
          rintro e w2 ⟨rfl, rfl⟩
          by_cases h8 : 8 ≤ m + 5
          · obtain ⟨q, rfl⟩ : ∃ q, m = q + 3 := ⟨m - 3, by omega⟩
            have hq : (q : Int) + 3 + 5 - 8 = (q : Int) := by omega
            have hd8 : decide (8 ≤ (q : Int) + 3 + 5) = true := by simp; omega
            have hd0 : decide ((sv c : Int) < 0) = false := by simp
            have h8e := eight_of h2 q
            have H8O := Lib.hid (eight_out h2 q)
            obtain ⟨b, hb8⟩ : ∃ b : UInt8, b = UInt8.ofNat (h2 / 2 ^ q) := ⟨_, rfl⟩
            rw [← hb8] at h8e
            have HB8 := Lib.hid hb8
            have hsz := HB.out.size
            have hacc : acc.length ≤ s.size := by
              have := congrArg List.length HD.out
              rw [decBits_length, List.length_append, bitsOf_length, toBits_length] at this
              have h3 : (s.data.toList.take k).length ≤ k := List.length_take_le _ _
              omega
            clear h8 hb8
            go_wp2_with (at_builtin; refine wpList_append_own _ rfl _ _ 22 rfl w.heap.size 5 i0 (.int .u8 0) 1 1 Tryd.underlying22 HII.out H0.out H1.out H2.out rfl (by decide) _ _ _ rfl (HO.out.alloc _) ⟨wr.heap.size, 0, none⟩ 1 1 [.int .u8 (b.toNat : Int)] rfl rfl ?c1 ?c2 ?c3 ?c4 ?c5 ?_)
            case c1 =>
              intro j u hj
              match j, hj with
              | 0, hj => simp at hj; subst hj; simp [Addr.add]
            case c2 => intro u hu; simp at hu; subst hu; rfl
            case c3 => unfold maxLen; omega
            case c4 => omega
            case c5 => simp; omega
            intro v' w3 hown' hgrow' _
            have HB3 : Hid (Below w.heap.size w w3) := (HB.out.alloc hsz _).grown hgrow' (by simp; omega) (fun g hg => (HO.out.lt g hg).1)
            have HO3 : Hid (w3.ownsRow w.heap.size 5 1 v' (acc ++ [b]).length (Lib.byteCells (acc ++ [b]))) := by
              show w3.ownsRow w.heap.size 5 1 v' (acc ++ [b]).length (Lib.byteCells (acc ++ [b]))
              rw [← cells_snoc', List.length_append]
              simpa using hown'
            have HD3 : Hid (decBits (s.data.toList.take (k + 1)) = bitsOf (acc ++ [b]) ++ toBits q h2) := by
              have h5 : toBits (q + 8) h2 = toBits (q + 3) h ++ toBits 5 (sv c) := HS2.out
              rw [HTK.out, decBits_append, HD.out, bitsOf_append, ← HC.out, List.append_assoc, List.append_assoc]
              congr 1
              have h6 : decBits [c] = toBits 5 (sv c) := List.append_nil _
              have h7 : bitsOf [b] = toBits 8 b.toNat := List.append_nil _
              rw [h6, h7, ← h5, HB8.out]
              exact H8O.out
            have HV3 : Hid (∀ c ∈ s.data.toList.take (k + 1), sv c < 32) := by
              intro x hx
              rw [HTK.out, ← HC.out, List.mem_append, List.mem_singleton] at hx
              rcases hx with hx | rfl
              · exact HV.out x hx
              · exact hval
            clear hown' hgrow'
            go_wp2_with fail
            exact ⟨⟨k + 1, h2, q, acc ++ [b], rfl, rfl, by go_num, by omega, hh2, by omega, HD3, HV3, HO3, HB3⟩, by simp [intOf]; omega⟩
          · have hd0 : decide ((sv c : Int) < 0) = false := by simp
            have HD3 : Hid (decBits (s.data.toList.take (k + 1)) = bitsOf acc ++ toBits (m + 5) h2) := by
              rw [HTK.out, decBits_append, HD.out, ← HC.out, List.append_assoc, HS2.out]
              have h6 : decBits [c] = toBits 5 (sv c) := List.append_nil _
              rw [h6]
              exact rfl
            have HV3 : Hid (∀ c ∈ s.data.toList.take (k + 1), sv c < 32) := by
              intro x hx
              rw [HTK.out, ← HC.out, List.mem_append, List.mem_singleton] at hx
              rcases hx with hx | rfl
              · exact HV.out x hx
              · exact hval
            go_wp2_with fail
            exact ⟨⟨k + 1, h2, m + 5, acc, rfl, by go_num, by go_num, by omega, hh2, by omega, HD3, HV3, HO, HB⟩, by simp [intOf]; omega⟩
        · have HSC : Hid (∀ W, Calls Tryd.prog 36 #[.string ⟨#[48, 49, 50, 51, 52, 53, 54, 55, 56, 57, 97, 98, 99, 100, 102, 103, 104, 105, 106, 107, 108, 109, 110, 112, 113, 114, 115, 118, 119, 120, 121, 122]⟩, .int .u8 (s[k].toNat : Int)] W fun e w' => e = .returned (.int .i64 (-1)) ∧ W = w') := by
            intro W
            have := sign_call c W
            rw [if_neg hval, hc] at this
            exact this
          have HN : Hid (∀ acc, enc acc ≠ s.data.toList) := by
            intro a ha
            apply hval
            apply enc_valid a
            rw [ha, hc]
            exact Array.mem_toList_iff.mpr (Array.getElem_mem hlt)
          clear hc hval
          go_wp2_with fail
          refine (HSC.out _).mono ?_
          rintro e w2 ⟨rfl, rfl⟩
          go_wp2_with fail
          go_ret2
          exact ⟨HB.out, .inr ⟨HN.out, rfl⟩⟩
      · have hkk : s.data.toList.take k = s.data.toList := List.take_of_length_le (by simp; omega)
        have HD4 : Hid (decBits s.data.toList = bitsOf acc ++ toBits m h) := by have := HD.out; rw [hkk] at this; exact this
        have HV4 : Hid (∀ c ∈ s.data.toList, sv c < 32) := by have := HV.out; rw [hkk] at this; exact this
        clear hkk
        have hmk := mask_low32 h m hh hm
        by_cases hz : h % 2 ^ m = 0
        · have HE : Hid (enc acc = s.data.toList) := by
            have h4 := HD4.out
            rw [(toBits_zero m h).mpr hz] at h4
            exact enc_of_bits _ _ m hm HOK.out HV4.out h4
          have ht : (bits BinOp.and IntKind.u32 (h : Int) ((2 ^ m - 1) % 4294967296) != 0) = false := by rw [hmk, hz]; rfl
          clear hmk hz
          go_wp2_with fail
          go_ret2
          exact ⟨HB.out, .inl ⟨_, acc, HE.out, rfl, HO.out⟩⟩
        · have HN : Hid (∀ a, enc a ≠ s.data.toList) := by
            intro a ha
            have h5 := (bits_of_enc _ _ m _ (toBits_length m h) hm HD4.out a ha).2
            exact hz ((toBits_zero m h).mp h5)
          have ht : (bits BinOp.and IntKind.u32 (h : Int) ((2 ^ m - 1) % 4294967296) != 0) = true := by
            rw [hmk, bne_iff_ne]; omega
          clear hmk hz
          go_wp2_with fail
          go_ret2
          exact ⟨HB.out, .inr ⟨HN.out, rfl⟩⟩
  · have hne : ∀ acc, enc acc ≠ s.data.toList := by
      intro acc h
      apply hok
      have := lenOk_enc acc
      rw [h, hlen] at this
      unfold lenOk at this
      rw [← hn, ← hd, ← hr, ← ht] at this
      exact this
    have hb : ((d : Int) * 8 + (t : Int) != (s.size : Int)) = true := by
      rw [bne_iff_ne]
      omega
    have HN := Lib.hid hne
    clear hne hok hn hr hd ht hlen hz0 hz1 hz2 hi
    go_enter Tryd.func14, Tryd.ntmps14
    go_wp2
    go_ret2
    exact ⟨Below.refl _ _, .inr ⟨HN.out, rfl⟩⟩
end Go.Proofs.YtmaknbcfnigbmaaDoor

namespace Go.Proofs.YtmaknbcfnigbmaaDoor
open Go.RowKit Sig
theorem tails_of {W : World} (h : Lib.TabIs Tryd.prog W "stillroom/bits.tails" .i64 [0, 2, 4, 5, 7]) : Tails W := by
  intro r hr
  have := h.cell (g := 0) (by kernel_rfl) r (by simpa using hr)
  rw [this]
  have : r = 0 ∨ r = 1 ∨ r = 2 ∨ r = 3 ∨ r = 4 := by omega
  rcases this with rfl | rfl | rfl | rfl | rfl <;> rfl
end Go.Proofs.YtmaknbcfnigbmaaDoor
