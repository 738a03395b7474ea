/- bits.Encode, walked: it tells the signs of the bytes ('Sig.enc'); what lay below stands. Condition: at most 2^46 bytes. -/
import Derived.Test.YtmaknbcfnigbmaaDoorSigWords
import Derived.Test.YtmaknbcfnigbmaaDoorBuild
import Derived.Test.YtmaknbcfnigbmaaDoorShelf
import Derived.Lib.FrozenHead
namespace Go.Proofs.YtmaknbcfnigbmaaDoor
open Go.RowKit Sig

/-- A byte more is laid into the word. -/
theorem held_more (h x n : Nat) (hx : x < 256) (hn : n < 5) : ∃ h2 : Nat, h2 < 4294967296 ∧ bits BinOp.or IntKind.u32 ((h : Int) * 256 % 4294967296) (x : Int) = (h2 : Int) ∧ toBits (n + 8) h2 = toBits n h ++ toBits 8 x := by
  refine ⟨h * 256 % 4294967296 + x, by omega, ?_, ?_⟩
  · have e : (h : Int) * 256 % 4294967296 = ((h * 256 % 4294967296 : Nat) : Int) := by omega
    rw [e, u32_or_nat _ _ (by omega) (by omega), nat_join 8 _ _ (by omega) (by omega)]
  · rw [← toBits_join n 8 h x (by omega)]
    apply toBits_congr
    have : n = 0 ∨ n = 1 ∨ n = 2 ∨ n = 3 ∨ n = 4 := by omega
    rcases this with rfl | rfl | rfl | rfl | rfl <;> simp only [Nat.reduceAdd, Nat.reducePow] <;> omega
/-- Five bits are taken out of the word. -/
theorem held_out (h n : Nat) : toBits (n + 5) h = toBits 5 (h / 2 ^ n) ++ toBits n h := by
  rw [Nat.add_comm]; exact toBits_split 5 n h

theorem five_of (h n : Nat) (hh : h < 4294967296) : bits BinOp.and IntKind.u32 ((h : Int) / 2 ^ n) 31 = ((h / 2 ^ n % 32 : Nat) : Int) := by
  have e : (h : Int) / 2 ^ n = ((h / 2 ^ n : Nat) : Int) := by simp
  have hd : h / 2 ^ n < 4294967296 := Nat.lt_of_le_of_lt (Nat.div_le_self _ _) hh
  rw [e, show (31 : Int) = ((31 : Nat) : Int) from rfl, u32_and_nat _ _ hd (by decide)]
  congr 1
  exact Nat.and_two_pow_sub_one_eq_mod _ 5
theorem last_of (h n : Nat) : bits BinOp.and IntKind.u32 ((h : Int) * 2 ^ (5 - n) % 4294967296) 31 = ((h * 2 ^ (5 - n) % 32 : Nat) : Int) := by
  have e : (h : Int) * 2 ^ (5 - n) % 4294967296 = ((h * 2 ^ (5 - n) % 4294967296 : Nat) : Int) := by simp
  rw [e, show (31 : Int) = ((31 : Nat) : Int) from rfl, u32_and_nat _ _ (Nat.mod_lt _ (by decide)) (by decide)]
  congr 1
  have : h * 2 ^ (5 - n) % 4294967296 &&& 31 = h * 2 ^ (5 - n) % 4294967296 % 32 := Nat.and_two_pow_sub_one_eq_mod _ 5
  rw [this, Nat.mod_mod_of_dvd _ (by decide)]
theorem encB_rest (h n : Nat) (h0 : 0 < n) (hn : n < 5) : encB (toBits n h) = [sgn (h * 2 ^ (5 - n) % 32)] := by
  rw [encB_last _ (by rw [toBits_length]; exact h0) (by rw [toBits_length]; exact hn), ofBits_toBits, toBits_length]
  congr 2
  rw [show (32 : Nat) = 2 ^ n * 2 ^ (5 - n) by rw [← Nat.pow_add, Nat.add_sub_of_le (by omega)], Nat.mul_mod_mul_right]
theorem sgn_fin : ∀ v : Fin 32, (⟨#[48, 49, 50, 51, 52, 53, 54, 55, 56, 57, 97, 98, 99, 100, 102, 103, 104, 105, 106, 107, 108, 109, 110, 112, 113, 114, 115, 118, 119, 120, 121, 122]⟩ : ByteArray)[v.val]'(v.isLt) = sgn v.val := by decide

theorem sgn_at (v : Nat) (h : v < 32) : (⟨#[48, 49, 50, 51, 52, 53, 54, 55, 56, 57, 97, 98, 99, 100, 102, 103, 104, 105, 106, 107, 108, 109, 110, 112, 113, 114, 115, 118, 119, 120, 121, 122]⟩ : ByteArray)[v]'h = sgn v := sgn_fin ⟨v, h⟩
theorem cells_snoc (l : List UInt8) (b : UInt8) : Lib.byteCells l ++ [.int .u8 (b.toNat : Int)] = Lib.byteCells (l ++ [b]) := by rw [Lib.byteCells_append]; rfl
theorem room_left {acc l : List UInt8} {r : List Bool} (h : acc ++ encB r = enc l) (hl : l.length ≤ 70368744177664) : (Lib.byteCells acc).length + (encB r).length ≤ 140737488355328 := by
  have := congrArg List.length h
  rw [List.length_append, enc_length] at this
  rw [Lib.byteCells_length]
  omega

set_option maxHeartbeats 1000000 in
theorem encode_any (A : Option Addr) (l : List UInt8) (c : Nat) (w : World) (hr : ReadsB w A l) (hl : l.length ≤ 70368744177664) :
    Calls Tryd.prog 13 #[.slice A l.length c] w fun e w' => e = .returned (.string ⟨(enc l).toArray⟩) ∧ Below w.heap.size w w' := by
  have HR := Lib.hid hr
  clear hr
  go_enter Tryd.func13, Tryd.ntmps13
  go_wp2
  go_loopw [4, 5, 10] (fun t4 t5 t10 wr => ∃ (k h n : Nat) (acc : List UInt8), t4 = .int .u32 h ∧ t5 = .int .i64 n ∧ t10 = .int .i64 k ∧ k ≤ l.length ∧ h < 4294967296 ∧ n < 5 ∧ Hid (acc ++ encB (toBits n h ++ bitsOf (l.drop k)) = enc l) ∧ Hid (Lib.IsBuilder 66 5 w.heap.size w.heap.size (Lib.byteCells acc) wr) ∧ Hid (Below w.heap.size w wr)) (fun _ _ t10 _ => l.length - (intOf t10).toNat)
  case atStart =>
    exact ⟨0, 0, 0, [], rfl, rfl, rfl, Nat.zero_le _, by decide, by decide, rfl, Lib.fresh_isBuilder 66 5 w, (Below.refl _ w).alloc (Nat.le_refl _) _⟩
  case round =>
    obtain ⟨k, h, n, acc, rfl, rfl, rfl, hk, hh, hn, HA, HI, HB⟩ := hrel
    by_cases hlt : k < l.length
    · obtain ⟨ad, rfl, hcell⟩ := ReadsB.at_ (ReadsB.below HR.out HB.out) k hlt
      have hb8 := l[k].toNat_lt
      go_wp2
      obtain ⟨h2, hh2, he, hs⟩ := held_more h l[k].toNat n hb8 hn
      have HA2 : Hid (acc ++ encB (toBits (n + 8) h2 ++ bitsOf (l.drop (k + 1))) = enc l) := by
        have := HA.out
        rw [List.drop_eq_getElem_cons hlt, bitsOf_cons] at this
        rw [hs, List.append_assoc]
        exact this
      clear hs HA
      rw [he]
      clear he
      obtain ⟨wo, rfl⟩ : ∃ wo : World, wo = wr := ⟨_, rfl⟩
      go_loopw [5] (fun t5 wr => ∃ (m : Nat) (acc : List UInt8), t5 = .int .i64 m ∧ m < 13 ∧ Hid (acc ++ encB (toBits m h2 ++ bitsOf (l.drop (k + 1))) = enc l) ∧ Hid (Lib.IsBuilder 66 5 w.heap.size w.heap.size (Lib.byteCells acc) wr) ∧ Hid (Below w.heap.size w wr)) (fun t5 _ => (intOf t5).toNat)
      case atStart => exact ⟨n + 8, acc, by go_num, by omega, HA2, HI, HB⟩
      case round =>
        clear HA2 HI HB
        obtain ⟨m, acc, rfl, hm, HA, HI, HB⟩ := hrel
        by_cases h5 : 5 ≤ m
        · obtain ⟨q, rfl⟩ : ∃ q, m = q + 5 := ⟨m - 5, by omega⟩
          have hv := five_of h2 q hh2
          have hv32 : h2 / 2 ^ q % 32 < 32 := Nat.mod_lt _ (by decide)
          have HV : Hid (toBits 5 (h2 / 2 ^ q) = toBits 5 (h2 / 2 ^ q % 32)) := (toBits_mod 5 _).symm
          have HO := Lib.hid (held_out h2 q)
          have HF : Hid (ofBits 0 (toBits 5 (h2 / 2 ^ q)) = h2 / 2 ^ q % 32) := ofBits_toBits 5 _
          generalize h2 / 2 ^ q % 32 = v at *
          have HE : Hid (encB (toBits (q + 5) h2 ++ bitsOf (l.drop (k + 1))) = sgn v :: encB (toBits q h2 ++ bitsOf (l.drop (k + 1)))) := by
            rw [HO.out, List.append_assoc, encB_five _ _ (toBits_length 5 _), HF.out]
            exact rfl
          have hroom := room_left HA.out hl
          rw [HE.out, List.length_cons] at hroom
          have hsz := HB.out.size
          clear HV HO HF
          go_wp2_with fail
          rw [sgn_at v hv32]
          refine (Build.writeByte w.heap.size w.heap.size (Lib.byteCells acc) _ wr HI.out (by omega) hsz).mono ?_
          rintro e w1 ⟨rfl, h1, b1⟩
          go_wp2_with fail
          go_roundw
          case rel =>
            refine ⟨q, acc ++ [sgn v], by go_num, by omega, ?_, ?_, HB.out.trans b1⟩
            · have := HA.out
              rw [HE.out] at this
              rw [List.append_assoc]
              exact this
            · rw [← cells_snoc]; exact h1
          case measure => simp [intOf]; omega
        · go_wp2_with fail
          refine ⟨⟨k + 1, h2, m, acc, rfl, rfl, by go_num, by omega, hh2, by omega, HA, HI, HB⟩, by simp [intOf]; omega⟩
    · have hnil : l.drop k = [] := List.drop_eq_nil_of_le (by omega)
      have hA := HA.out
      rw [hnil, bitsOf_nil, List.append_nil] at hA
      clear HA
      obtain rfl : k = l.length := by omega
      have hsz := HB.out.size
      by_cases h0 : 0 < n
      · rw [encB_rest h n h0 hn] at hA
        have hroom := congrArg List.length hA
        rw [List.length_append, enc_length, List.length_singleton] at hroom
        have hcl := Lib.byteCells_length acc
        have hroom2 : (Lib.byteCells acc).length + 1 ≤ 140737488355328 := by omega
        clear hroom hcl
        have hv := last_of h n
        have hv32 : h * 2 ^ (5 - n) % 32 < 32 := Nat.mod_lt _ (by decide)
        have HA := Lib.hid hA
        clear hA
        generalize h * 2 ^ (5 - n) % 32 = v at *
        go_wp2_with fail
        rw [sgn_at v hv32]
        refine (Build.writeByte w.heap.size w.heap.size (Lib.byteCells acc) _ wr HI.out hroom2 hsz).mono ?_
        rintro e w1 ⟨rfl, h1, b1⟩
        rw [cells_snoc] at h1
        go_wp2_with fail
        refine (Tryd.Builder_String_any w.heap.size w.heap.size (acc ++ [sgn v]) w1 h1 (Nat.le_trans hsz b1.size)).mono ?_
        rintro e w2 ⟨rfl, b2⟩
        go_wp2_with fail
        go_ret
        exact ⟨by rw [HA.out]; rfl, (HB.out.trans b1).trans b2⟩
      · obtain rfl : n = 0 := by omega
        have e : acc = enc l := by simpa [toBits, encB] using hA
        subst e
        clear hA
        go_wp2_with fail
        refine (Tryd.Builder_String_any w.heap.size w.heap.size (enc l) wr HI.out hsz).mono ?_
        rintro e w2 ⟨rfl, b2⟩
        go_wp2_with fail
        go_ret
        exact ⟨rfl, HB.out.trans b2⟩
end Go.Proofs.YtmaknbcfnigbmaaDoor
