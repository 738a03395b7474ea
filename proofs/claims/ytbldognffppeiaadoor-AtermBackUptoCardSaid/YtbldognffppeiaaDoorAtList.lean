/- aterm.list of texts, walked. -/
import Derived.Test.YtbldognffppeiaaDoorAtRow
namespace Go.Proofs.YtbldognffppeiaaDoor
open Go.RowKit Quo
set_option linter.unusedSimpArgs false
set_option linter.unusedVariables false
/-- The first k told, the rest empty. -/
def listM {α : Type} (f : α → List UInt8) (l : List α) (k : Nat) : List ByteArray := (l.take k).map (fun x => tx (f x)) ++ List.replicate (l.length - k) ⟨#[]⟩
theorem listM_set {α : Type} {f : α → List UInt8} {l : List α} {k : Nat} {x : α} (h : l[k]? = some x) : (listM f l k).set k (tx (f x)) = listM f l (k + 1) := by
  have hk := (List.getElem?_eq_some_iff.1 h).1
  unfold listM
  rw [List.set_append_right _ _ (by simp; omega), List.length_map, List.length_take, show k - min k l.length = 0 by omega, List.take_add_one, h]
  rw [show l.length - k = (l.length - (k + 1)) + 1 by omega, List.replicate_succ, List.set_cons_zero]
  simp
theorem listM_at {α : Type} {f : α → List UInt8} {l : List α} {k : Nat} (hk : k < l.length) : (listM f l k)[k]? = some ⟨#[]⟩ := by
  unfold listM
  rw [List.getElem?_append_right (by simp; omega), List.length_map, List.length_take, show k - min k l.length = 0 by omega, List.getElem?_replicate]
  rw [if_pos (by omega)]
theorem listM_all {α : Type} (f : α → List UInt8) (l : List α) : listM f l l.length = l.map (fun x => tx (f x)) := by simp [listM]
theorem join_told {α : Type} (f : α → List UInt8) (l : List α) : Lib.join ((l.map (fun x => tx (f x))).map (·.data.toList)) (⟨#[44]⟩ : ByteArray).data.toList = joinC (l.map f) := by
  unfold joinC
  rw [List.map_map]
  rfl
theorem made_str (n : Nat) : madeCells (Value.string ⟨#[]⟩).cells (n * 1) = strCells (List.replicate n ⟨#[]⟩) := by
  rw [Nat.mul_one]
  apply Array.toList_inj.1
  show (madeCells #[.string ⟨#[]⟩] n).toList = _
  rw [toList_madeCells_one]
  simp [strCells]
theorem make_strs (n : Nat) (hn : n ≤ 1048576) (w : World) : (Instr.makeSlice 26 (.int .i64 (n : Int)) (.int .i64 (n : Int))).run Tryd.prog w = .ok (.slice (some ⟨w.heap.size, 0, none⟩) n n) (w.alloc (.cells (strCells (List.replicate n ⟨#[]⟩)) 9)) := by
  obtain ⟨i0, hi, hz0, hz1, hz2⟩ := info_parts info9'
  have := run_makeSlice w (P := Tryd.prog) 26 9 i0 (.string ⟨#[]⟩) Tryd.underlying26 hi hz0 .i64 .i64 (n : Int) (n : Int) (by omega) (by omega) (by rw [hz1]; omega) (by rw [hz2]; omega) (by omega)
  rw [this, hz1, Int.toNat_natCast, made_str]
set_option maxHeartbeats 4000000 in
set_option maxRecDepth 100000 in
theorem listI_any (A : Option Addr) (l : List ByteArray) (c : Nat) (hl : l.length ≤ 1024) (hs : ∀ s ∈ l, s.size ≤ 1048576) (w : World) (hT : Tabs w) (h : StrsAt w A l) :
    Calls Tryd.prog 27 #[.slice A l.length c, .func (.func 8) #[] #[]] w fun e w' => e = .returned (.string (tx (listD l))) ∧ Below w.heap.size w w' := by
  have HS := Lib.hid hs
  have H := Lib.hid h
  have HT := Lib.hid (fun w1 (h : Below w.heap.size w w1) => hT.below h)
  obtain ⟨n, hn⟩ : ∃ n, Hid (n = l.length) := ⟨_, rfl⟩
  rw [← hn.out] at hl ⊢
  clear hs hT h
  have hmk := make_strs n (by omega) w
  have HB0 : Hid (Below w.heap.size w (w.alloc (.cells (strCells (List.replicate n ⟨#[]⟩)) 9))) := (Below.refl _ w).alloc (Nat.le_refl _) _
  have HK0 : Hid (Blk (w.alloc (.cells (strCells (List.replicate n ⟨#[]⟩)) 9)) w.heap.size 9 (strCells (listM quoS l 0))) := by
    have h := Blk.new w 9 (strCells (List.replicate n ⟨#[]⟩))
    rw [hn.out] at h ⊢
    exact h
  go_enter Tryd.func27, Tryd.ntmps27
  go_upto_region 2 with (fail)
  obtain ⟨g, hg⟩ : ∃ g, Hid (g = w.heap.size) := ⟨_, rfl⟩
  rw [← hg.out] at HK0 ⊢
  clear hmk
  generalize w.alloc (.cells (strCells (List.replicate n ⟨#[]⟩)) 9) = W0 at *
  go_wp2_with fail
  go_loopw [13] (fun t13 wr => ∃ k : Nat, t13 = .int .i64 k ∧ k ≤ n ∧ Hid (Blk wr g 9 (strCells (listM quoS l k))) ∧ Hid (Below w.heap.size w wr)) (fun t13 _ => n - (intOf t13).toNat)
  case atStart => exact ⟨0, rfl, Nat.zero_le _, HK0, HB0⟩
  case round =>
    clear HK0 HB0
    obtain ⟨k, rfl, hk, HK, HB⟩ := hrel
    by_cases hlt : k < n
    · obtain ⟨s, hs⟩ : ∃ s, Hid (l[k]? = some s) := ⟨_, List.getElem?_eq_getElem (by rw [← hn.out]; exact hlt)⟩
      obtain ⟨ga, o, rfl, q1⟩ := H.out k s hs.out
      have r1 := (HB.out.cell (World.block_lt_of_cell? w _ q1)).trans q1
      have hz := HS.out s (List.mem_of_getElem? hs.out)
      have HC := Lib.hid (quote_any s wr (HT.out wr HB.out) (by omega))
      have d1 : (k : Int) < (n : Int) := by omega
      have d2 : (0 : Int) ≤ (k : Int) := by omega
      have hgl := HK.out.lt
      clear q1
      go_upto_region 5 with (fail)
      go_upto_region 6 with (first
        | (go_at_call 8; refine HC.out.mono ?_; rintro e w1 ⟨rfl, hb⟩; have HB1 := Lib.hid (HB.out.trans (hb.mono HB.out.size)); have HK1 := Lib.hid (HK.out.below hb hgl); have y1 : w1.cell? ⟨g, k, none⟩ = some (.string ⟨#[]⟩) := (HK1.out.cell k).trans (strCells_at (listM_at (by rw [← hn.out]; exact hlt))); have y2 : w1.frozen? ⟨g, k, none⟩ = false := HK1.out.frozen k; clear hb r1)
        | fail)
      have HB2 : Hid (Below w.heap.size w (w1.setCell ⟨g, k, none⟩ (.string ⟨(quo s.data.toList).toArray⟩))) := HB1.out.setCell (p := ⟨g, k, none⟩) (by show _ ≤ g; rw [hg.out]; exact Nat.le_refl _) _
      have HK2 : Hid (Blk (w1.setCell ⟨g, k, none⟩ (.string ⟨(quo s.data.toList).toArray⟩)) g 9 (strCells (listM quoS l (k + 1)))) := by
        have h := HK1.out.set_ k (.string (tx (quoS s)))
        rw [strCells_set, listM_set hs.out] at h
        exact h
      clear y1 y2 HK1 HB1
      generalize w1.setCell ⟨g, k, none⟩ (.string ⟨(quo s.data.toList).toArray⟩) = W2 at *
      go_wp2_with fail
      exact ⟨⟨k + 1, by first | rfl | simp, by omega, HK2, HB2⟩, by simp [intOf]; omega⟩
    · obtain rfl : n = k := by omega
      have d1 : ¬ (n : Int) < (n : Int) := by omega
      have hll : Hid ((l.map (fun s => tx (quoS s))).length = n) := by rw [Hid, List.length_map, hn.out]
      have hlen := joinC_length (l.map quoS) 1024 2097154 (by rw [List.length_map, ← hn.out]; exact hl) (fun x hx => by
        obtain ⟨s, hs, rfl⟩ := List.mem_map.1 hx
        exact quoS_length s (HS.out s hs))
      have HJ := Lib.hid (Tryd.strings_Join g 0 n (l.map (fun s => tx (quoS s))) ⟨#[44]⟩ wr (fun j x hj => by
        have h := HK.out
        rw [hn.out, listM_all] at h
        rw [Nat.zero_add]
        exact (h.cell j).trans (strCells_at hj)) HK.out.lt (by rw [hll.out]; omega) (by rw [hll.out]; exact Nat.le_refl _) (by rw [join_told]; omega))
      rw [hll.out, join_told] at HJ
      obtain ⟨J, hJ⟩ : ∃ J, Hid (J = tx (joinC (l.map quoS))) := ⟨_, rfl⟩
      have hJs : J.size ≤ 2147486720 := by rw [hJ.out, tx_size]; omega
      have hJ2 : Hid ((⟨(joinC (l.map quoS)).toArray⟩ : ByteArray) = J) := hJ.out.symm
      rw [hJ2.out] at HJ
      have e1 : ¬ 9223372036854775807 < 1 + J.size := by omega
      have e2 : ¬ 9223372036854775807 < 1 + J.size + 1 := by omega
      clear hlen
      go_wp2_with (first
        | (go_at_call 30; refine HJ.out.mono ?_; rintro e w1 ⟨rfl, hb⟩; have HB1 := Lib.hid (HB.out.trans (hb.mono HB.out.size)); clear hb)
        | fail)
      go_ret
      refine ⟨congrArg (fun x => Ending.returned (.string x)) ?_, HB1.out⟩
      rw [hJ.out, show (⟨#[91]⟩ : ByteArray) = tx [91] from rfl, show (⟨#[93]⟩ : ByteArray) = tx [93] from rfl, tx_app, tx_app]
      rfl
end Go.Proofs.YtbldognffppeiaaDoor
