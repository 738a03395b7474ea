/- aterm.row, walked: it quotes its own fresh list in place. -/
import Derived.Test.YtbldognffppeiaaDoorAtText
namespace Go.Proofs.YtbldognffppeiaaDoor
open Go.RowKit Quo
set_option linter.unusedSimpArgs false
set_option linter.unusedVariables false
def strCells (l : List ByteArray) : Array Value := (l.map Value.string).toArray
theorem strCells_size (l : List ByteArray) : (strCells l).size = l.length := by simp [strCells]
theorem strCells_at {l : List ByteArray} {k : Nat} {s : ByteArray} (h : l[k]? = some s) : (strCells l)[k]? = some (.string s) := by
  unfold strCells
  rw [List.getElem?_toArray, List.getElem?_map, h]; rfl
theorem strCells_set (l : List ByteArray) (k : Nat) (s : ByteArray) : (strCells l).setIfInBounds k (.string s) = strCells (l.set k s) := by
  simp [strCells, List.map_set]
/-- The first k quoted. -/
def rowM (l : List ByteArray) (k : Nat) : List ByteArray := (l.take k).map (fun s => tx (quoS s)) ++ l.drop k
theorem rowM_length (l : List ByteArray) (k : Nat) (h : k ≤ l.length) : (rowM l k).length = l.length := by
  unfold rowM
  rw [List.length_append, List.length_map, List.length_take, List.length_drop]; omega
theorem rowM_at {l : List ByteArray} {k : Nat} {s : ByteArray} (h : l[k]? = some s) : (rowM l k)[k]? = some s := by
  have hk := (List.getElem?_eq_some_iff.1 h).1
  unfold rowM
  rw [List.getElem?_append_right (by simp; omega), List.length_map, List.length_take, List.getElem?_drop]
  rw [show k + (k - min k l.length) = k by omega]
  exact h
theorem rowM_set {l : List ByteArray} {k : Nat} {s : ByteArray} (h : l[k]? = some s) : (rowM l k).set k (tx (quoS s)) = rowM l (k + 1) := by
  have hk := (List.getElem?_eq_some_iff.1 h).1
  unfold rowM
  rw [List.set_append_right _ _ (by simp; omega), List.length_map, List.length_take, show k - min k l.length = 0 by omega, List.take_add_one, h]
  rw [List.drop_eq_getElem_cons hk, List.set_cons_zero]
  simp
theorem rowM_all (l : List ByteArray) : rowM l l.length = l.map (fun s => tx (quoS s)) := by simp [rowM]
theorem join_quoted (l : List ByteArray) : Lib.join ((l.map (fun s => tx (quoS s))).map (·.data.toList)) (⟨#[44]⟩ : ByteArray).data.toList = joinC (l.map quoS) := by
  unfold joinC
  rw [List.map_map]
  rfl
set_option maxHeartbeats 4000000 in
set_option maxRecDepth 100000 in
theorem row_any (l : List ByteArray) (hl : l.length ≤ 4) (hs : ∀ s ∈ l, s.size ≤ 1048576) (w0 W : World) (hT : Tabs w0) (hb : Below w0.heap.size w0 W) (g : Nat) (hg : w0.heap.size ≤ g) (hk : Blk W g 9 (strCells l)) :
    Calls Tryd.prog 24 #[.slice (some ⟨g, 0, none⟩) l.length l.length] W fun e w' => e = .returned (.string (tx ([40] ++ joinC (l.map quoS) ++ [41]))) ∧ Below w0.heap.size w0 w' := by
  have HS := Lib.hid hs
  have HB0 := Lib.hid hb
  have HK0 : Hid (Blk W g 9 (strCells (rowM l 0))) := hk
  have HT := Lib.hid (fun w1 (h : Below w0.heap.size w0 w1) => hT.below h)
  obtain ⟨n, hn⟩ : ∃ n, Hid (n = l.length) := ⟨_, rfl⟩
  rw [← hn.out] at hl ⊢
  clear hs hb hk hT
  go_enter Tryd.func24, Tryd.ntmps24
  go_wp2_with fail
  go_loopw [6] (fun t6 wr => ∃ k : Nat, t6 = .int .i64 k ∧ k ≤ n ∧ Hid (Blk wr g 9 (strCells (rowM l k))) ∧ Hid (Below w0.heap.size w0 wr)) (fun t6 _ => n - (intOf t6).toNat)
  case atStart => exact ⟨0, rfl, Nat.zero_le _, HK0, HB0⟩
  case round =>
    clear HK0 HB0
    obtain ⟨k, rfl, hk, HK, HB⟩ := hrel
    by_cases hlt : k < n
    · obtain ⟨s, hs⟩ : ∃ s, Hid (l[k]? = some s) := ⟨_, List.getElem?_eq_getElem (by rw [← hn.out]; exact hlt)⟩
      have r1 : wr.cell? ⟨g, k, none⟩ = some (.string s) := (HK.out.cell k).trans (strCells_at (rowM_at hs.out))
      have hz := HS.out s (List.mem_of_getElem? hs.out)
      have HC := Lib.hid (quote_any s wr (HT.out wr HB.out) (by omega))
      have d1 : (k : Int) < (n : Int) := by omega
      have d2 : (0 : Int) ≤ (k : Int) := by omega
      have hgl := HK.out.lt
      go_upto_region 4 with (fail)
      go_upto_region 5 with (first
        | (go_at_call 8; refine HC.out.mono ?_; rintro e w1 ⟨rfl, hb⟩; have HB1 := Lib.hid (HB.out.trans (hb.mono HB.out.size)); have HK1 := Lib.hid (HK.out.below hb hgl); have y1 : w1.cell? ⟨g, k, none⟩ = some (.string s) := (HK1.out.cell k).trans (strCells_at (rowM_at hs.out)); have y2 : w1.frozen? ⟨g, k, none⟩ = false := HK1.out.frozen k; clear hb r1)
        | fail)
      have HB2 : Hid (Below w0.heap.size w0 (w1.setCell ⟨g, k, none⟩ (.string ⟨(quo s.data.toList).toArray⟩))) := HB1.out.setCell (p := ⟨g, k, none⟩) hg _
      have HK2 : Hid (Blk (w1.setCell ⟨g, k, none⟩ (.string ⟨(quo s.data.toList).toArray⟩)) g 9 (strCells (rowM l (k + 1)))) := by
        have h := HK1.out.set_ k (.string (tx (quoS s)))
        rw [strCells_set, rowM_set hs.out] at h
        exact h
      clear y1 y2 HK1 HB1
      generalize w1.setCell ⟨g, k, none⟩ (.string ⟨(quo s.data.toList).toArray⟩) = W2 at *
      go_wp2_with fail
      exact ⟨⟨k + 1, by first | rfl | simp, by omega, HK2, HB2⟩, by simp [intOf]; omega⟩
    · obtain rfl : n = k := by omega
      have d1 : ¬ (n : Int) < (n : Int) := by omega
      have hll : Hid ((l.map (fun s => tx (quoS s))).length = n) := by rw [Hid, List.length_map, hn.out]
      have hlen := joinC_length (l.map quoS) 4 2097154 (by rw [List.length_map, ← hn.out]; exact hl) (fun x hx => by
        obtain ⟨s, hs, rfl⟩ := List.mem_map.1 hx
        exact quoS_length s (HS.out s hs))
      have HJ := Lib.hid (Tryd.strings_Join g 0 n (l.map (fun s => tx (quoS s))) ⟨#[44]⟩ wr (fun j x hj => by
        have h := HK.out
        rw [hn.out, rowM_all] at h
        rw [Nat.zero_add]
        exact (h.cell j).trans (strCells_at hj)) HK.out.lt (by rw [hll.out]; omega) (by rw [hll.out]; exact Nat.le_refl _) (by rw [join_quoted]; omega))
      rw [hll.out, join_quoted] at HJ
      obtain ⟨J, hJ⟩ : ∃ J, Hid (J = tx (joinC (l.map quoS))) := ⟨_, rfl⟩
      have hJs : J.size ≤ 8388620 := by rw [hJ.out, tx_size]; omega
      have hJ2 : Hid ((⟨(joinC (l.map quoS)).toArray⟩ : ByteArray) = J) := hJ.out.symm
      rw [hJ2.out] at HJ
      have e1 : ¬ 9223372036854775807 < 1 + J.size := by omega
      have e2 : ¬ 9223372036854775807 < 1 + J.size + 1 := by omega
      clear hlen
      go_wp2_with (first
        | (go_at_call 30; refine HJ.out.mono ?_; rintro e w1 ⟨rfl, hb⟩; have HB1 := Lib.hid (HB.out.trans (hb.mono HB.out.size)); clear hb)
        | fail)
      go_ret
      refine ⟨congrArg (fun x => Ending.returned (.string x)) ?_, HB1.out⟩
      rw [hJ.out, show (⟨#[40]⟩ : ByteArray) = tx [40] from rfl, show (⟨#[41]⟩ : ByteArray) = tx [41] from rfl, tx_app, tx_app]
      rfl
end Go.Proofs.YtbldognffppeiaaDoor
