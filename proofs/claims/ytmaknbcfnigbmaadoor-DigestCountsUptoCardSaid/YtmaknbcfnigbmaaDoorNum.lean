/- Rotations of words, walked: the program's and the reference's. The number of bytes and the bytes of a number, walked: the program's and the reference's. digest.words, walked. -/
import Derived.Test.YtmaknbcfnigbmaaDoorProg
import Derived.WalkKit
import Derived.Lib.Hide
import Derived.Test.YtmaknbcfnigbmaaDoorPlain
import Derived.Test.YtmaknbcfnigbmaaDoorMem
import Derived.OwnWalk
import Derived.BigQuiet
import Derived.StillTailTactics
import Derived.Deep.CutBlock
import Derived.Deep.DeepCutAuto
namespace Go.Proofs.YtmaknbcfnigbmaaDoor
open Go.RowKit Sha

theorem rr_or (x n : Nat) (hx : x < 4294967296) (h1 : n < 32) : bits .or .u32 ((x / 2 ^ n : Nat) : Int) ((x * 2 ^ (32 - n) % 4294967296 : Nat) : Int) = (x / 2 ^ n + x % 2 ^ n * 2 ^ (32 - n) : Nat) := by
  have hp : 2 ^ n * 2 ^ (32 - n) = 4294967296 := by rw [← Nat.pow_add, show n + (32 - n) = 32 by omega]
  have hpos : 0 < 2 ^ n := Nat.pow_pos (by decide)
  have hpos2 : 0 < 2 ^ (32 - n) := Nat.pow_pos (by decide)
  have h2 : x * 2 ^ (32 - n) % 4294967296 = x % 2 ^ n * 2 ^ (32 - n) := by
    rw [← hp, Nat.mul_mod_mul_right]
  have h3 : x / 2 ^ n < 2 ^ (32 - n) := by
    rw [Nat.div_lt_iff_lt_mul hpos, Nat.mul_comm, hp]; exact hx
  have h4 : x % 2 ^ n * 2 ^ (32 - n) + 2 ^ (32 - n) ≤ 4294967296 := by
    have : x % 2 ^ n + 1 ≤ 2 ^ n := Nat.mod_lt _ hpos
    have := Nat.mul_le_mul_right (2 ^ (32 - n)) this
    rw [Nat.add_mul, hp] at this
    omega
  rw [h2, u32_or_nat _ _ (by omega) (by omega), Nat.or_comm, nat_join (32 - n) _ _ (Nat.mul_mod_left _ _) h3, Nat.add_comm]
theorem rr_nat (n : Nat) (x : UInt32) (h1 : n < 32) : ((rr n x).toNat : Nat) = x.toNat / 2 ^ n + x.toNat % 2 ^ n * 2 ^ (32 - n) := by
  have hx := x.toNat_lt
  have hp : 2 ^ n * 2 ^ (32 - n) = 4294967296 := by rw [← Nat.pow_add, show n + (32 - n) = 32 by omega]
  have hpos : 0 < 2 ^ n := Nat.pow_pos (by decide)
  have h3 : x.toNat / 2 ^ n < 2 ^ (32 - n) := by
    rw [Nat.div_lt_iff_lt_mul hpos, Nat.mul_comm, hp]; exact hx
  have h4 : x.toNat % 2 ^ n * 2 ^ (32 - n) + 2 ^ (32 - n) ≤ 4294967296 := by
    have : x.toNat % 2 ^ n + 1 ≤ 2 ^ n := Nat.mod_lt _ hpos
    have := Nat.mul_le_mul_right (2 ^ (32 - n)) this
    rw [Nat.add_mul, hp] at this
    omega
  unfold rr
  rw [UInt32.toNat_ofNat']
  exact Nat.mod_eq_of_lt (by omega)
theorem rot_any (x : UInt32) (n : Nat) (h0 : 0 < n) (h1 : n < 32) (w : World) :
    Calls Tryd.prog 65 #[.int .u32 (x.toNat : Int), .int .i64 (n : Int)] w fun e w' => e = .returned (.int .u32 ((rr n x).toNat : Int)) ∧ w = w' := by
  have hx := x.toNat_lt
  have HR := Lib.hid (rr_nat n x h1)
  have HO := Lib.hid (rr_or x.toNat n hx h1)
  generalize x.toNat = y at *
  obtain ⟨m, hmn⟩ : ∃ m, m = 32 - n := ⟨_, rfl⟩
  rw [← hmn] at HR HO
  have hb : bits .and .u64 (n : Int) 31 = (n : Int) := by
    have := u64_and_nat n 31 (by omega) (by decide)
    rw [nat_mask5] at this
    rw [show n % 32 = n by omega] at this
    exact this
  have hm : bits .and .u64 (IntKind.u64.wrap (-(n : Int))) 31 = (m : Int) := by
    have := u64_and_nat (18446744073709551616 - n) 31 (by omega) (by decide)
    rw [nat_mask5] at this
    rw [show (18446744073709551616 - n) % 32 = m by omega] at this
    rw [← this]
    congr 1
    show (-(n : Int)) % 18446744073709551616 = _
    omega
  have hm1 : m < 32 := by omega
  clear hmn
  go_enter Tryd.func65, Tryd.ntmps65
  go_wp2_with fail
  go_ret
  have e1 : (y : Int) / 2 ^ n = ((y / 2 ^ n : Nat) : Int) := by rw [Int.natCast_ediv, Int.natCast_pow]; rfl
  have e2 : (y : Int) * 2 ^ m % 4294967296 = ((y * 2 ^ m % 4294967296 : Nat) : Int) := by rw [Int.natCast_emod, Int.natCast_mul, Int.natCast_pow]; rfl
  refine ⟨?_, rfl⟩
  rw [e1, e2, HO.out, HR.out]
  rfl
/-- The reference's. -/
theorem refRot_any (x : UInt32) (n : Nat) (h0 : 0 < n) (h1 : n < 32) (w : World) :
    Calls Tryd.prog 57 #[.int .u32 (x.toNat : Int), .int .i64 (n : Int)] w fun e w' => e = .returned (.int .u32 ((rr n x).toNat : Int)) ∧ w = w' := by
  have hx := x.toNat_lt
  have HR := Lib.hid (rr_nat n x h1)
  have HL : Hid ((rr n x).toNat < 4294967296) := (rr n x).toNat_lt
  generalize hy : x.toNat = y at *
  have hz : ((n : Int) % 32 == 0) = false := by rw [beq_eq_false_iff_ne]; omega
  have he : n % 32 = n := by omega
  have HE := Lib.hid he
  clear he hy
  go_enter Tryd.func57, Tryd.ntmps57
  go_wp2_with fail
  go_ret
  refine ⟨?_, rfl⟩
  rw [HE.out]
  have hp : 2 ^ n * 2 ^ (32 - n) = 4294967296 := by rw [← Nat.pow_add, show n + (32 - n) = 32 by omega]
  have h2 : y * 2 ^ (32 - n) % 4294967296 = y % 2 ^ n * 2 ^ (32 - n) := by
    rw [← hp, Nat.mul_mod_mul_right]
  have e1 : (y : Int) / 2 ^ n = ((y / 2 ^ n : Nat) : Int) := by rw [Int.natCast_ediv, Int.natCast_pow]; rfl
  have e2 : (y : Int) * 2 ^ (32 - n) % 4294967296 = ((y * 2 ^ (32 - n) % 4294967296 : Nat) : Int) := by rw [Int.natCast_emod, Int.natCast_mul, Int.natCast_pow]; rfl
  have h3 := HR.out
  have h4 := HL.out
  rw [e1, e2, h2]
  rw [h3] at h4
  rw [h3]
  show Ending.returned (Value.int IntKind.u32 _) = _
  have e5 : ∀ a b : Nat, a + b < 4294967296 → ((a : Int) + (b : Int)) % 4294967296 = ((a + b : Nat) : Int) := by intro a b h; omega
  rw [← e5 _ _ h4]
theorem xo_int (a b : UInt32) : bits .xor .u32 (a.toNat : Int) (b.toNat : Int) = ((xo a b).toNat : Int) := by
  rw [u32_xor_nat _ _ a.toNat_lt b.toNat_lt]; rfl
theorem three_any (x : UInt32) (i j k : Nat) (h0 : 0 < i ∧ i < 32) (h1 : 0 < j ∧ j < 32) (h2 : 0 < k ∧ k < 32) (w : World) :
    Calls Tryd.prog 54 #[.int .u32 (x.toNat : Int), .int .i64 (i : Int), .int .i64 (j : Int), .int .i64 (k : Int)] w fun e w' => e = .returned (.int .u32 ((xo (xo (rr i x) (rr j x)) (rr k x)).toNat : Int)) ∧ w = w' := by
  have HX := Lib.hid xo_int
  go_enter Tryd.func54, Tryd.ntmps54
  go_wp2_with fail
  refine (rot_any x i h0.1 h0.2 _).mono ?_
  rintro e w' ⟨rfl, rfl⟩
  go_wp2_with fail
  refine (rot_any x j h1.1 h1.2 _).mono ?_
  rintro e w' ⟨rfl, rfl⟩
  go_wp2_with fail
  refine (rot_any x k h2.1 h2.2 _).mono ?_
  rintro e w' ⟨rfl, rfl⟩
  go_wp2_with fail
  go_ret
  refine ⟨?_, rfl⟩
  rw [HX.out, HX.out]
  rfl
theorem refTwo_any (x : UInt32) (i j : Nat) (h0 : 0 < i ∧ i < 32) (h1 : 0 < j ∧ j < 32) (w : World) :
    Calls Tryd.prog 56 #[.int .u32 (x.toNat : Int), .int .i64 (i : Int), .int .i64 (j : Int)] w fun e w' => e = .returned (.int .u32 ((xo (rr i x) (rr j x)).toNat : Int)) ∧ w = w' := by
  have HX := Lib.hid xo_int
  go_enter Tryd.func56, Tryd.ntmps56
  go_wp2_with fail
  refine (refRot_any x i h0.1 h0.2 _).mono ?_
  rintro e w' ⟨rfl, rfl⟩
  go_wp2_with fail
  refine (refRot_any x j h1.1 h1.2 _).mono ?_
  rintro e w' ⟨rfl, rfl⟩
  go_wp2_with fail
  go_ret
  refine ⟨?_, rfl⟩
  rw [HX.out]
  rfl
end Go.Proofs.YtmaknbcfnigbmaaDoor

namespace Go.Proofs.YtmaknbcfnigbmaaDoor
open Go.RowKit Sha

theorem numB_snoc (l : List UInt8) (b : UInt8) : numB (l ++ [b]) = numB l * 256 + b.toNat := by simp [numB]
theorem numB_lt (l : List UInt8) : ∀ n, l.length ≤ n → numB l < 256 ^ n := by
  suffices h : ∀ (n : Nat) (l : List UInt8), l.length ≤ n → numB l.reverse < 256 ^ n by
    intro n hn
    have := h n l.reverse (by simpa using hn)
    simpa using this
  intro n
  induction n with
  | zero =>
    intro l hl
    have : l = [] := List.length_eq_zero_iff.1 (by omega)
    subst this
    decide
  | succ n ih =>
    intro l hl
    match l with
    | [] => exact Nat.pow_pos (by decide)
    | b :: r =>
      have h := ih r (by simpa using hl)
      rw [List.reverse_cons, numB_snoc, Nat.pow_succ]
      have := b.toNat_lt
      omega
theorem take_snoc' (l : List UInt8) (k : Nat) (h : k < l.length) : l.take (k + 1) = l.take k ++ [l[k]] := List.take_succ_eq_append_getElem h
theorem or64_byte (a x : Nat) (ha : a < 72057594037927936) (hx : x < 256) : bits .or .u64 ((a : Int) * 256) (x : Int) = ((a * 256 + x : Nat) : Int) := by
  have e : (a : Int) * 256 = ((a * 256 : Nat) : Int) := by omega
  rw [e, u64_or_nat _ _ (by omega) (by omega), nat_join 8 _ _ (by omega) (by omega)]

set_option maxHeartbeats 400000 in
theorem number_any (A : Option Addr) (l : List UInt8) (c : Nat) (w : World) (hr : ReadsB w A l) (h1 : 1 ≤ l.length) (h2 : l.length ≤ 7) :
    Calls Tryd.prog 64 #[.slice A l.length c] w fun e w' => e = .returned (.tuple #[.int .u64 (numB l : Int), .int .i64 0]) ∧ w = w' := by
  have HR := Lib.hid hr
  clear hr
  go_enter Tryd.func64, Tryd.ntmps64
  go_wp2_with fail
  go_loop [4, 17] (fun t4 t17 => ∃ k : Nat, k ≤ l.length ∧ t4 = .int .u64 (numB (l.take k) : Int) ∧ t17 = .int .i64 k) (fun _ t17 => l.length - (intOf t17).toNat)
  case atStart => exact ⟨0, Nat.zero_le _, rfl, rfl⟩
  case round =>
    obtain ⟨k, hk, rfl, rfl⟩ := hrel
    by_cases hlt : k < l.length
    · obtain ⟨ad, rfl, hcell⟩ := ReadsB.at_ HR.out k hlt
      have hb8 := l[k].toNat_lt
      have hv : numB (l.take k) < 256 ^ 6 := numB_lt _ _ (by rw [List.length_take]; omega)
      have HN : Hid (numB (l.take (k + 1)) = numB (l.take k) * 256 + l[k].toNat) := by rw [Hid, take_snoc' l k hlt, numB_snoc]
      have hv2 : numB (l.take k) < 281474976710656 := hv
      clear hv
      have hor := or64_byte (numB (l.take k)) l[k].toNat (by omega) hb8
      generalize numB (l.take k) = v at *
      go_wp2_with fail
      go_round
      case rel => exact ⟨k + 1, by omega, by rw [HN.out]; go_num, by go_num⟩
      case measure => simp [intOf]; omega
    · obtain rfl : k = l.length := by omega
      go_wp2_with fail
      go_ret2
      exact ⟨rfl, rfl⟩
set_option maxHeartbeats 400000 in
theorem refNumber_any (A : Option Addr) (l : List UInt8) (c : Nat) (w : World) (hr : ReadsB w A l) (h1 : 1 ≤ l.length) (h2 : l.length ≤ 7) :
    Calls Tryd.prog 55 #[.slice A l.length c] w fun e w' => e = .returned (.tuple #[.int .u64 (numB l : Int), .int .i64 0]) ∧ w = w' := by
  have HR := Lib.hid hr
  clear hr
  go_enter Tryd.func55, Tryd.ntmps55
  go_wp2_with fail
  go_loop [4, 5] (fun t4 t17 => ∃ k : Nat, k ≤ l.length ∧ t4 = .int .u64 (numB (l.take k) : Int) ∧ t17 = .int .i64 k) (fun _ t17 => l.length - (intOf t17).toNat)
  case atStart => exact ⟨0, Nat.zero_le _, rfl, rfl⟩
  case round =>
    obtain ⟨k, hk, rfl, rfl⟩ := hrel
    by_cases hlt : k < l.length
    · obtain ⟨ad, rfl, hcell⟩ := ReadsB.at_ HR.out k hlt
      have hb8 := l[k].toNat_lt
      have hv : numB (l.take k) < 256 ^ 6 := numB_lt _ _ (by rw [List.length_take]; omega)
      have HN : Hid (numB (l.take (k + 1)) = numB (l.take k) * 256 + l[k].toNat) := by rw [Hid, take_snoc' l k hlt, numB_snoc]
      have hv2 : numB (l.take k) < 281474976710656 := hv
      clear hv
      generalize numB (l.take k) = v at *
      go_wp2_with fail
      go_round
      case rel => exact ⟨k + 1, by omega, by rw [HN.out]; go_num, by go_num⟩
      case measure => simp [intOf]; omega
    · obtain rfl : k = l.length := by omega
      go_wp2_with fail
      go_ret2
      exact ⟨rfl, rfl⟩

theorem info5b : (Tryd.prog.info? 5).map (fun i => (i.zero, i.size, i.bytes)) = some (some (.int .u8 0), 1, 1) := by kernel_rfl
theorem made_zero' (n : Nat) : madeCells (Value.int .u8 0).cells (n * 1) = cellsB (List.replicate n 0) := by
  apply Array.toList_inj.1
  rw [Nat.mul_one]
  show (madeCells #[.int .u8 0] n).toList = _
  rw [toList_madeCells_one]
  simp [cellsB]
theorem make_zeros' (n : Nat) (hn : n ≤ 1048576) (w : World) : (Instr.makeSlice 22 (.int .i64 (n : Int)) (.int .i64 (n : Int))).run Tryd.prog w = .ok (.slice (some ⟨w.heap.size, 0, none⟩) n n) (w.alloc (.cells (cellsB (List.replicate n 0)) 5)) := by
  obtain ⟨i0, hi, hz0, hz1, hz2⟩ := info_parts info5b
  have := run_makeSlice w (P := Tryd.prog) 22 5 i0 (.int .u8 0) Tryd.underlying22 hi hz0 .i64 .i64 (n : Int) (n : Int) (by omega) (by omega) (by rw [hz1]; omega) (by rw [hz2]; omega) (by omega)
  rw [this, hz1, Int.toNat_natCast, made_zero']
/-- The bytes that are laid after k rounds. -/
def laidN (n v k : Nat) : List UInt8 := List.replicate (n - k) 0 ++ beB k v
theorem laidN_length (n v k : Nat) (h : k ≤ n) : (laidN n v k).length = n := by simp [laidN, beB_length]; omega
theorem laidN_step (n v k : Nat) (h : k < n) : (laidN n v k).set (n - 1 - k) (UInt8.ofNat (v / 256 ^ k)) = laidN n v (k + 1) := by
  unfold laidN
  have e : List.replicate (n - k) (0 : UInt8) = List.replicate (n - (k + 1)) 0 ++ [0] := by
    rw [show n - k = (n - (k + 1)) + 1 by omega, List.replicate_succ']
  rw [e, List.append_assoc, List.set_append_right _ _ (by simp; omega)]
  simp only [List.length_replicate, List.singleton_append]
  rw [show n - 1 - k - (n - (k + 1)) = 0 by omega, List.set_cons_zero]
  rfl
theorem laidN_full (n v : Nat) : laidN n v n = beB n v := by simp [laidN]
theorem shr_byte' (v k : Nat) : (v : Int) / 2 ^ (8 * k) % 256 = (((UInt8.ofNat (v / 256 ^ k)).toNat : Nat) : Int) := by
  have e : (2 : Int) ^ (8 * k) = ((256 ^ k : Nat) : Int) := by
    rw [show (256 : Nat) = 2 ^ 8 from rfl, ← Nat.pow_mul, Int.natCast_pow]
    rfl
  rw [e, UInt8.toNat_ofNat', Int.natCast_emod, Int.natCast_ediv]
  rfl

set_option maxHeartbeats 400000 in
set_option maxRecDepth 100000 in
theorem bytes_any (v n : Nat) (hv : v < 18446744073709551616) (h1 : 1 ≤ n) (h2 : n ≤ 8) (w : World) :
    Calls Tryd.prog 41 #[.int .u64 (v : Int), .int .i64 (n : Int)] w fun e w' => e = .returned (.tuple #[.slice (some ⟨w.heap.size, 0, none⟩) n n, .int .i64 0]) ∧ Blk w' w.heap.size 5 (cellsB (beB n v)) ∧ Below w.heap.size w w' := by
  have hmk := make_zeros' n (by omega) w
  have HV := Lib.hid hv
  clear hv
  go_enter Tryd.func41, Tryd.ntmps41
  go_wp2_with fail
  go_loopw [17] (fun t17 wr => ∃ k : Nat, k ≤ n ∧ t17 = .int .i64 k ∧ Hid (Blk wr w.heap.size 5 (cellsB (laidN n v k))) ∧ Hid (Below w.heap.size w wr)) (fun t17 _ => n - (intOf t17).toNat)
  case atStart => exact ⟨0, Nat.zero_le _, rfl, by have := Blk.new w 5 (cellsB (List.replicate n 0)); simpa [Hid, laidN, beB] using this, (Below.refl _ w).alloc (Nat.le_refl _) _⟩
  case round =>
    clear hmk
    obtain ⟨k, hk, rfl, HB, HW⟩ := hrel
    by_cases hlt : k < n
    · have hm : n - 1 - k < (laidN n v k).length := by rw [laidN_length n v k hk]; omega
      have hc := (Blk.cell HB.out (n - 1 - k)).trans (cellsB_get _ (n - 1 - k) hm)
      have hf := Blk.frozen HB.out (n - 1 - k)
      have HS := Lib.hid (laidN_step n v k hlt)
      have HE := Lib.hid (shr_byte' v k)
      have HV2 := HV.out
      go_wp2_with fail
      go_roundw
      case rel =>
        refine ⟨k + 1, by omega, by go_num, ?_, HW.out.setCell (p := ⟨w.heap.size, n - 1 - k, none⟩) (by simp) _⟩
        rw [HE.out, ← HS.out, ← cellsB_set]
        exact Blk.set_ HB.out _ _
      case measure => simp [intOf]; omega
    · obtain rfl : k = n := by omega
      have HF := Lib.hid (laidN_full k v)
      go_wp2_with fail
      go_ret2
      exact ⟨rfl, by have h := HB.out; rw [HF.out] at h; exact h, HW.out⟩
theorem div_pow' (v k : Nat) : v / 256 ^ k / 256 = v / 256 ^ (k + 1) := by rw [Nat.div_div_eq_div_mul, Nat.pow_succ]
set_option maxHeartbeats 400000 in
set_option maxRecDepth 100000 in
/-- The reference's. -/
theorem refBytes_any (v n : Nat) (hv : v < 18446744073709551616) (h1 : 1 ≤ n) (h2 : n ≤ 8) (w : World) :
    Calls Tryd.prog 43 #[.int .u64 (v : Int), .int .i64 (n : Int)] w fun e w' => e = .returned (.tuple #[.slice (some ⟨w.heap.size, 0, none⟩) n n, .int .i64 0]) ∧ Blk w' w.heap.size 5 (cellsB (beB n v)) ∧ Below w.heap.size w w' := by
  have hmk := make_zeros' n (by omega) w
  have HV := Lib.hid hv
  clear hv
  go_enter Tryd.func43, Tryd.ntmps43
  go_wp2_with fail
  go_loopw [0, 7] (fun t0 t7 wr => ∃ k q : Nat, k ≤ n ∧ Hid (q = v / 256 ^ k) ∧ t0 = .int .u64 (q : Int) ∧ t7 = .int .i64 ((n : Int) - 1 - k) ∧ Hid (Blk wr w.heap.size 5 (cellsB (laidN n v k))) ∧ Hid (Below w.heap.size w wr)) (fun _ t7 _ => (intOf t7 + 1).toNat)
  case atStart => exact ⟨0, v, Nat.zero_le _, by simp [Hid], rfl, by simp, by have := Blk.new w 5 (cellsB (List.replicate n 0)); simpa [Hid, laidN, beB] using this, (Below.refl _ w).alloc (Nat.le_refl _) _⟩
  case round =>
    clear hmk
    obtain ⟨k, q, hk, HQ, rfl, rfl, HB, HW⟩ := hrel
    by_cases hlt : k < n
    · have hm : n - 1 - k < (laidN n v k).length := by rw [laidN_length n v k hk]; omega
      have hc := (Blk.cell HB.out (n - 1 - k)).trans (cellsB_get _ (n - 1 - k) hm)
      have hf := Blk.frozen HB.out (n - 1 - k)
      have HS := Lib.hid (laidN_step n v k hlt)
      have hq : q < 18446744073709551616 := by rw [HQ.out]; exact Nat.lt_of_le_of_lt (Nat.div_le_self _ _) HV.out
      have HE : Hid ((q : Int) % 256 = (((UInt8.ofNat (v / 256 ^ k)).toNat : Nat) : Int)) := by
        rw [Hid, UInt8.toNat_ofNat', ← HQ.out]; omega
      have HD : Hid (q / 256 = v / 256 ^ (k + 1)) := by rw [Hid, HQ.out, div_pow']
      go_wp2_with fail
      go_roundw
      case rel =>
        refine ⟨k + 1, q / 256, by omega, HD, by go_num, by go_num, ?_, HW.out.setCell (p := ⟨w.heap.size, n - 1 - k, none⟩) (by simp) _⟩
        rw [HE.out, ← HS.out, ← cellsB_set]
        exact Blk.set_ HB.out _ _
      case measure => simp [intOf]; omega
    · obtain rfl : k = n := by omega
      have HF := Lib.hid (laidN_full k v)
      go_wp2_with fail
      go_ret2
      exact ⟨rfl, by have h := HB.out; rw [HF.out] at h; exact h, HW.out⟩
end Go.Proofs.YtmaknbcfnigbmaaDoor

namespace Go.Proofs.YtmaknbcfnigbmaaDoor
open Go.RowKit Sha
theorem ReadsB.sub {w : World} {ad : Addr} {l : List UInt8} (h : ReadsB w (some ad) l) (i m : Nat) : ReadsB w (some (ad.add i)) ((l.drop i).take m) := fun hp => by
  have h0 : 0 < l.length := by
    rcases Nat.eq_zero_or_pos l.length with h1 | h1
    · have : l = [] := List.length_eq_zero_iff.1 h1
      subst this
      simp at hp
    · exact h1
  obtain ⟨ad', e, hc⟩ := h h0
  injection e with e
  subst e
  refine ⟨_, rfl, fun j b hj => ?_⟩
  rw [List.getElem?_take] at hj
  split at hj
  · rw [List.getElem?_drop] at hj
    rw [Addr.add_add]
    exact hc _ _ hj
  · cases hj
theorem word_int (l : List UInt8) (k : Nat) : ((numB ((l.drop (4 * k)).take 4) : Nat) : Int) % 4294967296 = ((word l k).toNat : Int) := by
  unfold word
  rw [UInt32.toNat_ofNat', Int.natCast_emod]
  rfl
theorem number_four (ad : Addr) (l : List UInt8) (k c : Nat) (hk : 4 * k + 4 ≤ l.length) (w : World) (hr : ReadsB w (some ad) l) :
    Calls Tryd.prog 64 #[.slice (some (ad.add (4 * k))) 4 c] w fun e w' => e = .returned (.tuple #[.int .u64 (numB ((l.drop (4 * k)).take 4) : Int), .int .i64 0]) ∧ w = w' := by
  have hl : ((l.drop (4 * k)).take 4).length = 4 := by rw [List.length_take, List.length_drop]; omega
  have h := number_any (some (ad.add (4 * k))) ((l.drop (4 * k)).take 4) c w (hr.sub (4 * k) 4) (by omega) (by omega)
  rw [hl] at h
  exact h
set_option maxHeartbeats 2000000 in
set_option maxRecDepth 100000 in
theorem words_any (p : Addr) (l : List UInt8) (c : Nat) (hl : l.length = 64) (hc : 64 ≤ c) (w : World) (hr : ReadsB w (some p) l) :
    Calls Tryd.prog 53 #[.slice (some p) 64 c] w fun e w' => e = .returned (.agg (cellsW (wds l 64))) ∧ Below w.heap.size w w' := by
  have HR := Lib.hid hr
  have HL := Lib.hid hl
  have HB0 := Lib.hid (Blk.new w 99 (cellsW (List.replicate 64 0)))
  have HW0 : Hid (Below w.heap.size w (w.alloc (.cells (cellsW (List.replicate 64 0)) 99))) := (Below.refl _ w).alloc (Nat.le_refl _) _
  clear hr hl
  go_enter Tryd.func53, Tryd.ntmps53
  go_wp2_with fail
  go_loopw [9] (fun t9 wr => ∃ k : Nat, t9 = .int .i64 k ∧ k ≤ 16 ∧ Hid (Blk wr w.heap.size 99 (cellsW (laidW l k))) ∧ Hid (Below w.heap.size w wr)) (fun t9 _ => 16 - (intOf t9).toNat)
  case atStart => exact ⟨0, rfl, by omega, HB0, HW0⟩
  case round =>
    clear HB0 HW0
    obtain ⟨k, rfl, hk, HB, HW⟩ := hrel
    by_cases hlt : k < 16
    · have hm : k < (laidW l k).length := by rw [laidW_length l k (by omega)]; omega
      have hcc := (Blk.cell HB.out k).trans (cellsW_get _ k hm)
      have hf := Blk.frozen HB.out k
      have hmin : (4 * (k : Int) + 4) ≤ 64 := by omega
      have HN : Hid (∀ c' W, ReadsB W (some p) l → Calls Tryd.prog 64 #[.slice (some (p.add (4 * k))) 4 c'] W fun e w' => e = .returned (.tuple #[.int .u64 (numB ((l.drop (4 * k)).take 4) : Int), .int .i64 0]) ∧ W = w') :=
        fun c' W h => number_four p l k c' (by have := HL.out; omega) W h
      have HWI := Lib.hid (word_int l k)
      have HS := Lib.hid (laidW_set l k (by omega) (word l k) (by rw [if_pos hlt]))
      have HRr := Lib.hid (HR.out.below HW.out)
      generalize numB ((l.drop (4 * k)).take 4) = v at *
      go_wp2_with fail
      refine (HN.out _ _ HRr.out).mono ?_
      rintro e w' ⟨rfl, rfl⟩
      go_wp2_with fail
      go_roundw
      case rel =>
        refine ⟨k + 1, by go_num, by omega, ?_, HW.out.setCell (p := ⟨w.heap.size, k, none⟩) (by simp) _⟩
        rw [HWI.out, ← HS.out, ← cellsW_set]
        exact Blk.set_ HB.out _ _
      case measure => simp [intOf]; omega
    · obtain rfl : k = 16 := by omega
      clear hlt hk
      go_wp2_with fail
      rw [show ((16 : Nat) : Int) = 16 from rfl]
      obtain ⟨wo, rfl⟩ : ∃ wo : World, wo = wr := ⟨_, rfl⟩
      go_loopw [6] (fun t6 wr => ∃ k : Nat, t6 = .int .i64 k ∧ 16 ≤ k ∧ k ≤ 64 ∧ Hid (Blk wr w.heap.size 99 (cellsW (laidW l k))) ∧ Hid (Below w.heap.size w wr)) (fun t6 _ => 64 - (intOf t6).toNat)
      case atStart => exact ⟨16, rfl, by omega, by omega, HB, HW⟩
      case round =>
        clear HB HW
        obtain ⟨k, rfl, hk1, hk, HB, HW⟩ := hrel
        by_cases hlt : k < 64
        · have hlen := laidW_length l k hk
          have hc15 := (Blk.cell HB.out (k - 15)).trans (cellsW_getD _ (k - 15) (by omega))
          have hc2 := (Blk.cell HB.out (k - 2)).trans (cellsW_getD _ (k - 2) (by omega))
          have hc16 := (Blk.cell HB.out (k - 16)).trans (cellsW_getD _ (k - 16) (by omega))
          have hc7 := (Blk.cell HB.out (k - 7)).trans (cellsW_getD _ (k - 7) (by omega))
          have hck := (Blk.cell HB.out k).trans (cellsW_getD _ k (by omega))
          have hf := Blk.frozen HB.out k
          rw [laidW_at l k _ (by omega)] at hc15 hc2 hc16 hc7
          have HS := Lib.hid (laidW_set l k (by omega) _ (by rw [if_neg (by omega)]))
          have hx : nextW (wds l k) k = ad (ad (ad ((wds l k).getD (k - 16) 0) (xo (xo (rr 7 ((wds l k).getD (k - 15) 0)) (rr 18 ((wds l k).getD (k - 15) 0))) (sr 3 ((wds l k).getD (k - 15) 0)))) ((wds l k).getD (k - 7) 0)) (xo (xo (rr 17 ((wds l k).getD (k - 2) 0)) (rr 19 ((wds l k).getD (k - 2) 0))) (sr 10 ((wds l k).getD (k - 2) 0))) := rfl
          have HNX := Lib.hid hx
          clear hx
          generalize (wds l k).getD (k - 16) 0 = x16 at *
          generalize (wds l k).getD (k - 15) 0 = x15 at *
          generalize (wds l k).getD (k - 7) 0 = x7 at *
          generalize (wds l k).getD (k - 2) 0 = x2 at *
          have HR1 : Hid (∀ W, Calls Tryd.prog 65 #[.int .u32 (x15.toNat : Int), .int .i64 7] W fun e w' => e = .returned (.int .u32 ((rr 7 x15).toNat : Int)) ∧ w' = W) := fun W => (rot_any x15 7 (by decide) (by decide) W).mono fun _ _ ⟨a, b⟩ => ⟨a, b.symm⟩
          have HR2 : Hid (∀ W, Calls Tryd.prog 65 #[.int .u32 (x15.toNat : Int), .int .i64 18] W fun e w' => e = .returned (.int .u32 ((rr 18 x15).toNat : Int)) ∧ w' = W) := fun W => (rot_any x15 18 (by decide) (by decide) W).mono fun _ _ ⟨a, b⟩ => ⟨a, b.symm⟩
          have HR3 : Hid (∀ W, Calls Tryd.prog 65 #[.int .u32 (x2.toNat : Int), .int .i64 17] W fun e w' => e = .returned (.int .u32 ((rr 17 x2).toNat : Int)) ∧ w' = W) := fun W => (rot_any x2 17 (by decide) (by decide) W).mono fun _ _ ⟨a, b⟩ => ⟨a, b.symm⟩
          have HR4 : Hid (∀ W, Calls Tryd.prog 65 #[.int .u32 (x2.toNat : Int), .int .i64 19] W fun e w' => e = .returned (.int .u32 ((rr 19 x2).toNat : Int)) ∧ w' = W) := fun W => (rot_any x2 19 (by decide) (by decide) W).mono fun _ _ ⟨a, b⟩ => ⟨a, b.symm⟩
          have hk0 : (16 : Int) ≤ (k : Int) := by omega
          have hk64 : (k : Int) < 64 := by omega
          go_wp2_with fail
          go_quiet (fail)
          go_wp2_with fail
          refine wp_region_still_tail 29 (by kernel_rfl) (by kernel_rfl) ?_
          simp only [List.take_succ_cons, List.take_zero, List.drop_succ_cons, List.drop_zero]
          change wpStill _ _ (World.drewN wr (nq + 1)) _ _ _
          have hw16 : IntKind.i64.wrap ((k : Int) - 16) = ((k - 16 : Nat) : Int) := by rw [IntWalk.i64_in _ (by omega)]; omega
          have hw7 : IntKind.i64.wrap ((k : Int) - 7) = ((k - 7 : Nat) : Int) := by rw [IntWalk.i64_in _ (by omega)]; omega
          have hb16 : 0 ≤ ((k - 16 : Nat) : Int) ∧ ((k - 16 : Nat) : Int) < 64 := by omega
          have hb7 : 0 ≤ ((k - 7 : Nat) : Int) ∧ ((k - 7 : Nat) : Int) < 64 := by omega
          repeat still_step
          still_call (HR1.out _)
          still_step
          still_call (HR2.out _)
          repeat still_step
          still_call (HR3.out _)
          still_step
          still_call (HR4.out _)
          repeat still_step
          refine wpStill_nil ?_
          change wpList _ _ _ _ _ (World.drewN wr (nq + 1))
          go_wp2_with fail
          go_roundw
          case rel =>
            refine ⟨k + 1, by go_num, by omega, by omega, ?_, ?_⟩
            · rw [xo_int', xo_int', sr3_int, xo_int', sr10_int, xo_int', ad4_int, ← HNX.out, ← HS.out, ← cellsW_set]
              exact Blk.set_ (HB.out.drewN (nq + 1)) _ _
            · exact below_drewN' HW.out (nq + 1) |>.setCell (p := ⟨w.heap.size, k, none⟩) (by simp) _
          case measure => simp [intOf]; omega
        · obtain rfl : k = 64 := by omega
          have HF : Hid (Blk wr w.heap.size 99 (cellsW (wds l 64))) := by have h := HB.out; rw [laidW_full] at h; exact h
          have hsz : (cellsW (wds l 64)).size = 64 := by rw [cellsW_size, wds_length]
          have HSZ := Lib.hid hsz
          clear HB hsz
          go_wp2_with (first
            | (refine wpList_load_row rfl 99 (.tmp 2) rfl w.heap.size rfl 99 (cellsW (wds l 64)) (0, 0) _ HF.out Tryd.underlying99 rfl (by rw [HSZ.out]; kernel_rfl) ?_)
            | (refine wpList_store_row rfl 99 (.tmp 2) (.tmp 69) rfl w.heap.size (cellsW (wds l 64)) rfl rfl 99 _ HF.out (by rw [HSZ.out]; kernel_rfl) (by rw [HSZ.out]) (cellsW_one _) ?_))
          refine bodyPost_ret (results_cell_row rfl _ _ w.heap.size 99 (cellsW (wds l 64)) _ _ rfl (Blk.row HF.out _) Tryd.underlying99 rfl (by rw [HSZ.out]; kernel_rfl)) rfl ?_
          exact ⟨rfl, below_setRow HW.out (Nat.le_refl _) _⟩
end Go.Proofs.YtmaknbcfnigbmaaDoor
