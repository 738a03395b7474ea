/- The contracts of strings.Builder's copyCheck and WriteByte at this seat: a builder that the call itself has made holds one byte more behind the call; what lay below stands. Condition: at most 2^47 bytes. bits.Encode, walked: it tells the signs of the bytes ('Sig.enc'); what lay below stands. Condition: at most 2^46 bytes. digest.Short, walked: it tells the signs of a digest's bytes, laid over one another twenty wide. -/
import Derived.Test.YtmaknbcfnigbmaaDoorProg
import Derived.Shelf.Strings.Builder1
import Derived.WalkKit
import Derived.BigCall
import Derived.Test.YtmaknbcfnigbmaaDoorMem
import Derived.Test.YtmaknbcfnigbmaaDoorShelf
import Derived.Lib.FrozenHead
import Derived.Laws.Rows
namespace Go.Proofs.YtmaknbcfnigbmaaDoor.Build
open Go.RowKit

theorem infoB : (Tryd.prog.info? 66).map (·.size) = some 2 := by kernel_rfl
theorem liesB : liesAt Tryd.prog Tryd.prog.depth 66 (2 / Tryd.prog.cellsOf 66) 0 66 1 = true := by kernel_rfl
theorem info8 : (Tryd.prog.info? 5).map (fun i => (i.zero, i.size, i.bytes)) = some (some (.int .u8 0), 1, 1) := by kernel_rfl

set_option maxHeartbeats 1000000 in
set_option maxRecDepth 100000 in
theorem copyCheck_used (b : Nat) (w : World) (h0 : w.cell? ⟨b, 0, none⟩ = some (.pointer (some ⟨b, 0, none⟩))) :
    Calls Tryd.prog 50 #[.pointer (some ⟨b, 0, none⟩)] w fun e w' => e = .returned (.tuple #[]) ∧ w' = w := by
  obtain ⟨j, hj, _⟩ := Option.map_eq_some_iff.1 infoB
  go_enter Tryd.func50, Tryd.ntmps50
  go_wp2
  rw [Lib.run_neq_ptr_same w _ Tryd.underlying64 hj]
  go_wp2
  go_end0
  exact ⟨rfl, rfl⟩

set_option maxHeartbeats 1000000 in
set_option maxRecDepth 100000 in
theorem copyCheck_fresh (b : Nat) (w : World) (h0 : w.cell? ⟨b, 0, none⟩ = some (.pointer none)) (hsh : w.shape? b = some (66, 2)) (hfz : w.frozen? ⟨b, 0, none⟩ = false) :
    Calls Tryd.prog 50 #[.pointer (some ⟨b, 0, none⟩)] w fun e w' => e = .returned (.tuple #[]) ∧ w' = w.setCell ⟨b, 0, none⟩ (.pointer (some ⟨b, 0, none⟩)) := by
  obtain ⟨j, hj, hjs⟩ := Option.map_eq_some_iff.1 infoB
  go_enter Tryd.func50, Tryd.ntmps50
  go_wp2
  rw [Lib.run_to_unsafe w ⟨b, 0, none⟩ Tryd.underlying64 Tryd.underlying110 hj (by rw [hjs]; decide) hsh (Nat.zero_lt_succ 1)]
  simp only [Result.andThen]
  rw [Oper.upon_value]
  go_wp2
  rw [run_callFunc_extern Tryd.func61 (by kernel_rfl) (by kernel_rfl) (by kernel_rfl) (e := Extern.AbiNoEscape.same) (by kernel_rfl)]
  rw [Lib.run_noEscape]
  simp only [Result.andThen]
  rw [Oper.upon_value]
  go_wp2
  rw [Lib.run_from_unsafe w ⟨b, 0, none⟩ Tryd.underlying110 Tryd.underlying64 hj hsh liesB]
  simp only [Result.andThen]
  rw [Oper.upon_value]
  go_wp2
  go_end0
  exact ⟨rfl, rfl⟩

theorem copyCheck (B b : Nat) (bs : List Value) (w : World) (h : Lib.IsBuilder 66 5 B b bs w) :
    Calls Tryd.prog 50 #[.pointer (some ⟨b, 0, none⟩)] w fun e w' => e = .returned (.tuple #[]) ∧ Lib.BuilderAt 66 5 B b (.pointer (some ⟨b, 0, none⟩)) bs w' ∧ Below B w w' := by
  rcases h with h | h
  · refine (copyCheck_fresh b w h.cell0 h.shape h.frozen0).mono ?_
    rintro e w' ⟨rfl, rfl⟩
    exact ⟨rfl, h.used _, (Below.refl B w).setCell (p := ⟨b, 0, none⟩) h.1 _⟩
  · refine (copyCheck_used b w h.cell0).mono ?_
    rintro e w' ⟨rfl, rfl⟩
    exact ⟨rfl, h, Below.refl B _⟩

set_option maxHeartbeats 2000000 in
set_option maxRecDepth 100000 in
theorem writeByte (B b : Nat) (bs : List Value) (c : Int) (w : World) (h : Lib.IsBuilder 66 5 B b bs w) (hlen : bs.length + 1 ≤ 140737488355328) (hBw : B ≤ w.heap.size) :
    Calls Tryd.prog 34 #[.pointer (some ⟨b, 0, none⟩), .int .u8 c] w fun e w' => e = .returned .nilIface ∧ Lib.IsBuilder 66 5 B b (bs ++ [.int .u8 c]) w' ∧ Below B w w' := by
  obtain ⟨i0, hi, hz0, hz1, hz2⟩ := info_parts info8
  go_enter Tryd.func34, Tryd.ntmps34
  go_wp2_with (go_at_call 50; refine (copyCheck B b bs _ h).mono ?_)
  rintro e w1 ⟨rfl, h1, hb1⟩
  obtain ⟨hB, v, hbk, hown, hne⟩ := h1
  have c0 : w1.cell? ⟨b, 0, none⟩ = some (.pointer (some ⟨b, 0, none⟩)) := by rw [Lib.cell_of_heap hbk]; rfl
  have c1 : w1.cell? ⟨b, 1, none⟩ = some v := by rw [Lib.cell_of_heap hbk]; rfl
  go_wp2_with (at_builtin; refine wpList_append_own _ rfl _ _ 22 rfl B 5 i0 (.int .u8 0) 1 1 Tryd.underlying22 hi hz0 hz1 hz2 rfl (by decide) _ _ _ rfl (hown.alloc _) ⟨w1.heap.size, 0, none⟩ 1 1 [.int .u8 c] rfl rfl ?c1 ?c2 ?c3 ?c4 ?c5 ?_)
  case c1 =>
    intro j u hj
    match j, hj with
    | 0, hj => simp at hj; subst hj; simp [Addr.add]
  case c2 => intro u hu; simp at hu; subst hu; rfl
  case c3 => unfold maxLen; omega
  case c4 => omega
  case c5 => have := hb1.size; simp; omega
  intro v' w2 hown' hgrow _
  have hlt : b < w1.heap.size := by
    rcases Nat.lt_or_ge b w1.heap.size with h' | h'
    · exact h'
    · simp [Array.getElem?_eq_none h'] at hbk
  have hb2 : w2.heap[b]? = some (.cells #[.pointer (some ⟨b, 0, none⟩), v] 66 (0, 0)) := by
    rw [hgrow.block b (by simp; omega) (fun e => hne e.symm), Lib.alloc_old w1 _ b hlt]
    exact hbk
  have d0 : w2.cell? ⟨b, 0, none⟩ = some (.pointer (some ⟨b, 0, none⟩)) := by rw [Lib.cell_of_heap hb2]; rfl
  have d1 : w2.cell? ⟨b, 1, none⟩ = some v := by rw [Lib.cell_of_heap hb2]; rfl
  have f1 : w2.frozen? ⟨b, 1, none⟩ = false := Lib.frozen_of_heap hb2 1
  obtain ⟨g, cap, rfl⟩ : ∃ g cap, v' = .slice (some ⟨g, 0, none⟩) (bs.length + 1) cap := by
    rcases hown'.2 with ⟨_, h0⟩ | ⟨g, cap, cur, hv, _⟩
    · omega
    · exact ⟨g, cap, hv⟩
  go_wp2
  go_ret
  refine ⟨rfl, ?_, ?_⟩
  · exact .inr (Lib.BuilderAt.put (T := 66) (e := 5) hB hb2 (bs' := bs ++ [.int .u8 c]) (by simpa using hown') (by decide))
  · exact ((hb1.alloc (by have := hb1.size; omega) _).grown hgrow (by have := hb1.size; simp; omega) (fun k hk => (hown.lt k hk).1)).setCell (p := ⟨b, 1, none⟩) hB _

set_option maxHeartbeats 2000000 in
set_option maxRecDepth 100000 in
theorem writeString (B b : Nat) (bs : List Value) (s : ByteArray) (w : World) (h : Lib.IsBuilder 66 5 B b bs w) (hlen : bs.length + s.size ≤ 140737488355328) (hBw : B ≤ w.heap.size) :
    Calls Tryd.prog 60 #[.pointer (some ⟨b, 0, none⟩), .string s] w fun e w' => e = .returned (.tuple #[.int .i64 s.size, .nilIface]) ∧ Lib.IsBuilder 66 5 B b (bs ++ Lib.strCells s) w' ∧ Below B w w' := by
  obtain ⟨i0, hi, hz0, hz1, hz2⟩ := info_parts info8
  go_enter Tryd.func60, Tryd.ntmps60
  go_wp2_with (go_at_call 50; refine (copyCheck B b bs _ h).mono ?_)
  rintro e w1 ⟨rfl, h1, hb1⟩
  obtain ⟨hB, v, hbk, hown, hne⟩ := h1
  have c0 : w1.cell? ⟨b, 0, none⟩ = some (.pointer (some ⟨b, 0, none⟩)) := by rw [Lib.cell_of_heap hbk]; rfl
  have c1 : w1.cell? ⟨b, 1, none⟩ = some v := by rw [Lib.cell_of_heap hbk]; rfl
  go_wp2_with (at_builtin; refine Lib.wpList_append_own_string _ rfl _ _ 22 9 rfl B 5 i0 Tryd.underlying22 Tryd.underlying9 hi hz0 hz1 hz2 _ _ _ rfl hown s rfl ?c3 ?c4 ?c5 ?_)
  case c3 => unfold maxLen; omega
  case c4 => omega
  case c5 => have := hb1.size; omega
  intro v' w2 hown' hgrow _
  have hlt : b < w1.heap.size := by
    rcases Nat.lt_or_ge b w1.heap.size with h' | h'
    · exact h'
    · simp [Array.getElem?_eq_none h'] at hbk
  have hb2 : w2.heap[b]? = some (.cells #[.pointer (some ⟨b, 0, none⟩), v] 66 (0, 0)) := by
    rw [hgrow.block b hlt (fun e => hne e.symm)]
    exact hbk
  have d0 : w2.cell? ⟨b, 0, none⟩ = some (.pointer (some ⟨b, 0, none⟩)) := by rw [Lib.cell_of_heap hb2]; rfl
  have d1 : w2.cell? ⟨b, 1, none⟩ = some v := by rw [Lib.cell_of_heap hb2]; rfl
  have f1 : w2.frozen? ⟨b, 1, none⟩ = false := Lib.frozen_of_heap hb2 1
  obtain ⟨ao, n', cap, rfl⟩ : ∃ ao n' cap, v' = .slice ao n' cap := by
    rcases hown'.2 with ⟨hv, _⟩ | ⟨g, cap, cur, hv, _⟩
    · exact ⟨_, _, _, hv⟩
    · exact ⟨_, _, _, hv⟩
  go_wp2
  go_ret2
  refine ⟨rfl, ?_, ?_⟩
  · exact .inr (Lib.BuilderAt.put (T := 66) (e := 5) hB hb2 (bs' := bs ++ Lib.strCells s) (by simpa [Lib.strCells_length] using hown') (by decide))
  · exact (hb1.grown hgrow (by have := hb1.size; omega) (fun k hk => (hown.lt k hk).1)).setCell (p := ⟨b, 1, none⟩) hB _
end Go.Proofs.YtmaknbcfnigbmaaDoor.Build

namespace Go.Proofs.YtmaknbcfnigbmaaDoor
open Go.RowKit Sig

/-- A byte more is laid into the word. -/
theorem held_more (h x n : Nat) (hx : x < 256) (hn : n < 5) : ∃ h2 : Nat, h2 < 4294967296 ∧ bits BinOp.or IntKind.u32 ((h : Int) * 256 % 4294967296) (x : Int) = (h2 : Int) ∧ toBits (n + 8) h2 = toBits n h ++ toBits 8 x := by
  refine ⟨h * 256 % 4294967296 + x, by omega, ?_, ?_⟩
  · have e : (h : Int) * 256 % 4294967296 = ((h * 256 % 4294967296 : Nat) : Int) := by omega
    rw [e, u32_or_nat _ _ (by omega) (by omega), nat_join 8 _ _ (by omega) (by omega)]
  · rw [← toBits_join n 8 h x (by omega)]
    apply toBits_congr
    have : n = 0 ∨ n = 1 ∨ n = 2 ∨ n = 3 ∨ n = 4 := by omega
    rcases this with rfl | rfl | rfl | rfl | rfl <;> simp only [Nat.reduceAdd, Nat.reducePow] <;> omega
/-- Five bits are taken out of the word. -/
theorem held_out (h n : Nat) : toBits (n + 5) h = toBits 5 (h / 2 ^ n) ++ toBits n h := by
  rw [Nat.add_comm]; exact toBits_split 5 n h

theorem five_of (h n : Nat) (hh : h < 4294967296) : bits BinOp.and IntKind.u32 ((h : Int) / 2 ^ n) 31 = ((h / 2 ^ n % 32 : Nat) : Int) := by
  have e : (h : Int) / 2 ^ n = ((h / 2 ^ n : Nat) : Int) := by simp
  have hd : h / 2 ^ n < 4294967296 := Nat.lt_of_le_of_lt (Nat.div_le_self _ _) hh
  rw [e, show (31 : Int) = ((31 : Nat) : Int) from rfl, u32_and_nat _ _ hd (by decide)]
  congr 1
  exact Nat.and_two_pow_sub_one_eq_mod _ 5
theorem last_of (h n : Nat) : bits BinOp.and IntKind.u32 ((h : Int) * 2 ^ (5 - n) % 4294967296) 31 = ((h * 2 ^ (5 - n) % 32 : Nat) : Int) := by
  have e : (h : Int) * 2 ^ (5 - n) % 4294967296 = ((h * 2 ^ (5 - n) % 4294967296 : Nat) : Int) := by simp
  rw [e, show (31 : Int) = ((31 : Nat) : Int) from rfl, u32_and_nat _ _ (Nat.mod_lt _ (by decide)) (by decide)]
  congr 1
  have : h * 2 ^ (5 - n) % 4294967296 &&& 31 = h * 2 ^ (5 - n) % 4294967296 % 32 := Nat.and_two_pow_sub_one_eq_mod _ 5
  rw [this, Nat.mod_mod_of_dvd _ (by decide)]
theorem encB_rest (h n : Nat) (h0 : 0 < n) (hn : n < 5) : encB (toBits n h) = [sgn (h * 2 ^ (5 - n) % 32)] := by
  rw [encB_last _ (by rw [toBits_length]; exact h0) (by rw [toBits_length]; exact hn), ofBits_toBits, toBits_length]
  congr 2
  rw [show (32 : Nat) = 2 ^ n * 2 ^ (5 - n) by rw [← Nat.pow_add, Nat.add_sub_of_le (by omega)], Nat.mul_mod_mul_right]
theorem sgn_fin : ∀ v : Fin 32, (⟨#[48, 49, 50, 51, 52, 53, 54, 55, 56, 57, 97, 98, 99, 100, 102, 103, 104, 105, 106, 107, 108, 109, 110, 112, 113, 114, 115, 118, 119, 120, 121, 122]⟩ : ByteArray)[v.val]'(v.isLt) = sgn v.val := by decide

theorem sgn_at (v : Nat) (h : v < 32) : (⟨#[48, 49, 50, 51, 52, 53, 54, 55, 56, 57, 97, 98, 99, 100, 102, 103, 104, 105, 106, 107, 108, 109, 110, 112, 113, 114, 115, 118, 119, 120, 121, 122]⟩ : ByteArray)[v]'h = sgn v := sgn_fin ⟨v, h⟩
theorem cells_snoc (l : List UInt8) (b : UInt8) : Lib.byteCells l ++ [.int .u8 (b.toNat : Int)] = Lib.byteCells (l ++ [b]) := by rw [Lib.byteCells_append]; rfl
theorem room_left {acc l : List UInt8} {r : List Bool} (h : acc ++ encB r = enc l) (hl : l.length ≤ 70368744177664) : (Lib.byteCells acc).length + (encB r).length ≤ 140737488355328 := by
  have := congrArg List.length h
  rw [List.length_append, enc_length] at this
  rw [Lib.byteCells_length]
  omega

set_option maxHeartbeats 1000000 in
theorem encode_any (A : Option Addr) (l : List UInt8) (c : Nat) (w : World) (hr : ReadsB w A l) (hl : l.length ≤ 70368744177664) :
    Calls Tryd.prog 13 #[.slice A l.length c] w fun e w' => e = .returned (.string ⟨(enc l).toArray⟩) ∧ Below w.heap.size w w' := by
  have HR := Lib.hid hr
  clear hr
  go_enter Tryd.func13, Tryd.ntmps13
  go_wp2
  go_loopw [4, 5, 10] (fun t4 t5 t10 wr => ∃ (k h n : Nat) (acc : List UInt8), t4 = .int .u32 h ∧ t5 = .int .i64 n ∧ t10 = .int .i64 k ∧ k ≤ l.length ∧ h < 4294967296 ∧ n < 5 ∧ Hid (acc ++ encB (toBits n h ++ bitsOf (l.drop k)) = enc l) ∧ Hid (Lib.IsBuilder 66 5 w.heap.size w.heap.size (Lib.byteCells acc) wr) ∧ Hid (Below w.heap.size w wr)) (fun _ _ t10 _ => l.length - (intOf t10).toNat)
  case atStart =>
    exact ⟨0, 0, 0, [], rfl, rfl, rfl, Nat.zero_le _, by decide, by decide, rfl, Lib.fresh_isBuilder 66 5 w, (Below.refl _ w).alloc (Nat.le_refl _) _⟩
  case round =>
    obtain ⟨k, h, n, acc, rfl, rfl, rfl, hk, hh, hn, HA, HI, HB⟩ := hrel
    by_cases hlt : k < l.length
    · obtain ⟨ad, rfl, hcell⟩ := ReadsB.at_ (ReadsB.below HR.out HB.out) k hlt
      have hb8 := l[k].toNat_lt
      go_wp2
      obtain ⟨h2, hh2, he, hs⟩ := held_more h l[k].toNat n hb8 hn
      have HA2 : Hid (acc ++ encB (toBits (n + 8) h2 ++ bitsOf (l.drop (k + 1))) = enc l) := by
        have := HA.out
        rw [List.drop_eq_getElem_cons hlt, bitsOf_cons] at this
        rw [hs, List.append_assoc]
        exact this
      clear hs HA
      rw [he]
      clear he
      obtain ⟨wo, rfl⟩ : ∃ wo : World, wo = wr := ⟨_, rfl⟩
      go_loopw [5] (fun t5 wr => ∃ (m : Nat) (acc : List UInt8), t5 = .int .i64 m ∧ m < 13 ∧ Hid (acc ++ encB (toBits m h2 ++ bitsOf (l.drop (k + 1))) = enc l) ∧ Hid (Lib.IsBuilder 66 5 w.heap.size w.heap.size (Lib.byteCells acc) wr) ∧ Hid (Below w.heap.size w wr)) (fun t5 _ => (intOf t5).toNat)
      case atStart => exact ⟨n + 8, acc, by go_num, by omega, HA2, HI, HB⟩
      case round =>
        clear HA2 HI HB
        obtain ⟨m, acc, rfl, hm, HA, HI, HB⟩ := hrel
        by_cases h5 : 5 ≤ m
        · obtain ⟨q, rfl⟩ : ∃ q, m = q + 5 := ⟨m - 5, by omega⟩
          have hv := five_of h2 q hh2
          have hv32 : h2 / 2 ^ q % 32 < 32 := Nat.mod_lt _ (by decide)
          have HV : Hid (toBits 5 (h2 / 2 ^ q) = toBits 5 (h2 / 2 ^ q % 32)) := (toBits_mod 5 _).symm
          have HO := Lib.hid (held_out h2 q)
          have HF : Hid (ofBits 0 (toBits 5 (h2 / 2 ^ q)) = h2 / 2 ^ q % 32) := ofBits_toBits 5 _
          generalize h2 / 2 ^ q % 32 = v at *
          have HE : Hid (encB (toBits (q + 5) h2 ++ bitsOf (l.drop (k + 1))) = sgn v :: encB (toBits q h2 ++ bitsOf (l.drop (k + 1)))) := by
            rw [HO.out, List.append_assoc, encB_five _ _ (toBits_length 5 _), HF.out]
            exact rfl
          have hroom := room_left HA.out hl
          rw [HE.out, List.length_cons] at hroom
          have hsz := HB.out.size
          clear HV HO HF
          go_wp2_with fail
          rw [sgn_at v hv32]
          refine (Build.writeByte w.heap.size w.heap.size (Lib.byteCells acc) _ wr HI.out (by omega) hsz).mono ?_
          rintro e w1 ⟨rfl, h1, b1⟩
          go_wp2_with fail
          go_roundw
          case rel =>
            refine ⟨q, acc ++ [sgn v], by go_num, by omega, ?_, ?_, HB.out.trans b1⟩
            · have := HA.out
              rw [HE.out] at this
              rw [List.append_assoc]
              exact this
            · rw [← cells_snoc]; exact h1
          case measure => simp [intOf]; omega
        · go_wp2_with fail
          refine ⟨⟨k + 1, h2, m, acc, rfl, rfl, by go_num, by omega, hh2, by omega, HA, HI, HB⟩, by simp [intOf]; omega⟩
    · have hnil : l.drop k = [] := List.drop_eq_nil_of_le (by omega)
      have hA := HA.out
      rw [hnil, bitsOf_nil, List.append_nil] at hA
      clear HA
      obtain rfl : k = l.length := by omega
      have hsz := HB.out.size
      by_cases h0 : 0 < n
      · rw [encB_rest h n h0 hn] at hA
        have hroom := congrArg List.length hA
        rw [List.length_append, enc_length, List.length_singleton] at hroom
        have hcl := Lib.byteCells_length acc
        have hroom2 : (Lib.byteCells acc).length + 1 ≤ 140737488355328 := by omega
        clear hroom hcl
        have hv := last_of h n
        have hv32 : h * 2 ^ (5 - n) % 32 < 32 := Nat.mod_lt _ (by decide)
        have HA := Lib.hid hA
        clear hA
        generalize h * 2 ^ (5 - n) % 32 = v at *
        go_wp2_with fail
        rw [sgn_at v hv32]
        refine (Build.writeByte w.heap.size w.heap.size (Lib.byteCells acc) _ wr HI.out hroom2 hsz).mono ?_
        rintro e w1 ⟨rfl, h1, b1⟩
        rw [cells_snoc] at h1
        go_wp2_with fail
        refine (Tryd.Builder_String_any w.heap.size w.heap.size (acc ++ [sgn v]) w1 h1 (Nat.le_trans hsz b1.size)).mono ?_
        rintro e w2 ⟨rfl, b2⟩
        go_wp2_with fail
        go_ret
        exact ⟨by rw [HA.out]; rfl, (HB.out.trans b1).trans b2⟩
      · obtain rfl : n = 0 := by omega
        have e : acc = enc l := by simpa [toBits, encB] using hA
        subst e
        clear hA
        go_wp2_with fail
        refine (Tryd.Builder_String_any w.heap.size w.heap.size (enc l) wr HI.out hsz).mono ?_
        rintro e w2 ⟨rfl, b2⟩
        go_wp2_with fail
        go_ret
        exact ⟨rfl, HB.out.trans b2⟩
end Go.Proofs.YtmaknbcfnigbmaaDoor

namespace Go.Proofs.YtmaknbcfnigbmaaDoor
open Go.RowKit Sig

/-- The first k bytes laid over one another, twenty wide. -/
def fold : List UInt8 → Nat → List UInt8
  | _, 0 => List.replicate 20 0
  | l, k + 1 => (fold l k).set (k % 20) ((fold l k).getD (k % 20) 0 ^^^ l.getD k 0)
theorem getD_at (l : List UInt8) (i : Nat) (h : i < l.length) : l.getD i 0 = l[i] := by simp [List.getD, h]
theorem fold_length (l : List UInt8) (k : Nat) : (fold l k).length = 20 := by
  induction k with
  | zero => simp [fold]
  | succ k ih => simp [fold, ih]

set_option maxHeartbeats 1000000 in
theorem short_any (l : List UInt8) (hl : l.length = 32) (w : World) :
    Calls Tryd.prog 27 #[.agg (cellsB l)] w fun e w' => e = .returned (.string ⟨(enc (fold l 32)).toArray⟩) ∧ Below w.heap.size w w' := by
  have hsz : (cellsB l).size = 32 := by rw [cellsB_size, hl]
  have HS := Lib.hid hsz
  have HL := Lib.hid hl
  have hlge : 32 ≤ l.length := by omega
  clear hsz hl
  go_enter Tryd.func27, Tryd.ntmps27
  go_wp2_with (refine wpList_load_row rfl 42 (.tmp 1) rfl w.heap.size rfl 42 (cellsB l) (0, 0) _ ((Blk.new w 42 (cellsB l)).alloc _) Tryd.underlying42 rfl (by rw [HS.out]; kernel_rfl) ?_)
  go_loopw [7] (fun t7 wr => ∃ (k : Nat), t7 = .int .i64 k ∧ k ≤ 32 ∧ Hid (Blk wr (w.heap.size + 1) 85 (cellsB (fold l k))) ∧ Hid (Below w.heap.size w wr)) (fun t7 _ => 32 - (intOf t7).toNat)
  case atStart =>
    refine ⟨0, rfl, by omega, ?_, ((Below.refl _ w).alloc (Nat.le_refl _) _).alloc (by simp) _⟩
    have h := Blk.new (w.alloc (.cells (cellsB l) 42)) 85 (cellsB (List.replicate 20 0))
    simp only [World.size_alloc] at h
    exact h
  case round =>
    obtain ⟨k, rfl, hk, HB, HW⟩ := hrel
    by_cases hlt : k < 32
    · have hix := fun w => run_index_one (P := Tryd.prog) (k := .i64) Tryd.underlying42 Tryd.isAgg5 Tryd.sizeOf5 (cellsB l) k _ hlt (cellsB_get l k (by omega)) w
      have hm : k % 20 < 20 := Nat.mod_lt _ (by decide)
      have hc := (Blk.cell HB.out (k % 20)).trans (cellsB_get _ (k % 20) (by rw [fold_length]; exact hm))
      have hf := Blk.frozen HB.out (k % 20)
      have hx : bits BinOp.xor IntKind.u8 ((fold l k)[k % 20]'(by rw [fold_length]; exact hm)).toNat l[k].toNat = (((fold l k)[k % 20]'(by rw [fold_length]; exact hm) ^^^ l[k]).toNat : Int) := by
        rw [u8_xor_nat _ _ (UInt8.toNat_lt _) (UInt8.toNat_lt _), UInt8.toNat_xor]
      have hstep : (fold l k).set (k % 20) ((fold l k)[k % 20]'(by rw [fold_length]; exact hm) ^^^ l[k]) = fold l (k + 1) := by
        simp only [fold]
        rw [getD_at _ _ (by rw [fold_length]; exact hm), getD_at _ _ (by omega)]
      have HX := Lib.hid hx
      have HST := Lib.hid hstep
      clear hx hstep
      go_wp2_with fail
      go_roundw
      case rel =>
        refine ⟨k + 1, by go_num, by omega, ?_, HW.out.setCell (p := ⟨w.heap.size + 1, k % 20, none⟩) (by simp) _⟩
        rw [HX.out, ← HST.out, ← cellsB_set]
        exact Blk.set_ HB.out _ _
      case measure => simp [intOf]; omega
    · obtain rfl : k = 32 := by omega
      have hlf := fold_length l 32
      have HLF := Lib.hid hlf
      clear hlf
      have hsh : wr.shape? (w.heap.size + 1) = some (85, 20) := by
        have h := HB.out
        unfold Blk at h
        simp [World.shape?, h, cellsB_size, fold_length]
      have he := encode_any (some ⟨w.heap.size + 1, 0, none⟩) (fold l 32) 20 wr (Blk.reads HB.out) (by rw [HLF.out]; decide)
      rw [HLF.out] at he
      have HE := Lib.hid he
      clear he
      go_wp2_with fail
      refine HE.out.mono ?_
      rintro e w2 ⟨rfl, hb⟩
      go_wp2_with fail
      go_ret
      exact ⟨rfl, below_step' HW.out hb⟩
end Go.Proofs.YtmaknbcfnigbmaaDoor
