/- aterm.Quote, walked: it tells the text between quotes ('Quo.quo'). Conditions: the two tables hold what their initialisers lay; at most 2^46 bytes. -/
import Derived.Test.YtbldognffppeiaaDoorWalkIndex8
import Derived.Test.YtbldognffppeiaaDoorQuo
import Derived.Test.YtbldognffppeiaaDoorBuild
import Derived.Test.YtbldognffppeiaaDoorShelf
import Derived.Test.YtbldognffppeiaaDoorArr
import Derived.Deep.QuietTactic
import Derived.BigQuiet
namespace Go.Proofs.YtbldognffppeiaaDoor
open Go.RowKit Quo

theorem cells_snoc (l : List UInt8) (b : UInt8) : Lib.byteCells l ++ [.int .u8 (b.toNat : Int)] = Lib.byteCells (l ++ [b]) := by rw [Lib.byteCells_append]; rfl

/-- The two tables of the quoted bytes. -/
def Tabs (w : World) : Prop := (∀ j (h : j < 5), w.cell? ⟨0, j, none⟩ = some (.int .u8 ((plainL[j]'h).toNat : Int))) ∧ ∀ j (h : j < 5), w.cell? ⟨1, j, none⟩ = some (.int .u8 ((signsL[j]'h).toNat : Int))

theorem Tabs.below {w w1 : World} (h : Tabs w) (hb : Below w.heap.size w w1) : Tabs w1 :=
  ⟨fun j hj => (hb.cell (World.block_lt_of_cell? w _ (h.1 j hj))).trans (h.1 j hj), fun j hj => (hb.cell (World.block_lt_of_cell? w _ (h.2 j hj))).trans (h.2 j hj)⟩
theorem plain_at (c : UInt8) (W : World) (hT : Tabs W) :
    Calls Tryd.prog 20 #[.slice (some ⟨0, 0, none⟩) 5 5, .int .u8 (c.toNat : Int)] W fun e w' => e = .returned (.int .i64 (ix plainL c)) ∧ w' = W := by
  refine index8 (some ⟨0, 0, none⟩) plainL 5 c W (fun _ => ⟨⟨0, 0, none⟩, rfl, fun j b hj => ?_⟩) (by decide)
  have hj5 : j < 5 := by
    rcases Nat.lt_or_ge j 5 with h1 | h1
    · exact h1
    · rw [List.getElem?_eq_none h1] at hj; cases hj
  rw [List.getElem?_eq_getElem hj5] at hj
  have e : (⟨0, 0, none⟩ : Addr).add j = ⟨0, j, none⟩ := by unfold Addr.add; split <;> simp_all
  rw [e, hT.1 j hj5]
  injection hj with hj
  rw [hj]
theorem take_byte (s : ByteArray) (k : Nat) (h : k < s.size) : s.data.toList.take (k + 1) = s.data.toList.take k ++ [s[k]] := by
  rw [List.take_succ_eq_append_getElem (by simpa using h)]; rfl

theorem case_c (c : UInt8) : (∃ (m : Nat) (h : m < 5), ix plainL c = (m : Int) ∧ qc c = [92, signsL[m]'h]) ∨ (ix plainL c = -1 ∧ qc c = [c]) := by
  unfold ix qc
  by_cases h : plainL.idxOf c < 5
  · refine .inl ⟨plainL.idxOf c, h, if_pos h, ?_⟩
    rw [if_pos h, List.getD_eq_getElem?_getD, List.getElem?_eq_getElem (show plainL.idxOf c < signsL.length from h)]
    rfl
  · exact .inr ⟨if_neg h, if_neg h⟩

theorem str_app (a b : List UInt8) : (⟨a.toArray⟩ : ByteArray) ++ (⟨b.toArray⟩ : ByteArray) = ⟨(a ++ b).toArray⟩ := by
  apply ByteArray.ext
  simp

set_option maxHeartbeats 1000000 in
theorem quote_any (s : ByteArray) (w : World) (hT : Tabs w) (hs : s.size ≤ 70368744177000) :
    Calls Tryd.prog 8 #[.string s] w fun e w' => e = .returned (.string ⟨(quo s.data.toList).toArray⟩) ∧ Below w.heap.size w w' := by
  have HT := Lib.hid hT
  clear hT
  go_enter Tryd.func8, Tryd.ntmps8
  go_wp2_with fail
  refine (Build.writeByte w.heap.size w.heap.size [] 34 _ (Lib.fresh_isBuilder 53 5 w) (by decide) (by simp)).mono ?_
  rintro e w1 ⟨rfl, h1, b1⟩
  have HI : Hid (Lib.IsBuilder 53 5 w.heap.size w.heap.size (Lib.byteCells [34]) w1) := h1
  have HB : Hid (Below w.heap.size w w1) := ((Below.refl _ w).alloc (Nat.le_refl _) _).trans b1
  clear h1 b1
  go_wp2_with fail
  go_loopw [9] (fun t9 wr => ∃ (k : Nat), t9 = .int .i64 k ∧ k ≤ s.size ∧ Hid (Lib.IsBuilder 53 5 w.heap.size w.heap.size (Lib.byteCells (34 :: body (s.data.toList.take k))) wr) ∧ Hid (Below w.heap.size w wr)) (fun t9 _ => s.size - (intOf t9).toNat)
  case atStart => exact ⟨0, rfl, Nat.zero_le _, HI, HB⟩
  case round =>
    clear HI HB
    obtain ⟨k, rfl, hk, HI, HB⟩ := hrel
    by_cases hlt : k < s.size
    · have HTr : Hid (Tabs wr) := HT.out.below HB.out
      obtain ⟨c, hc⟩ : ∃ c : UInt8, c = s[k] := ⟨_, rfl⟩
      have HS : Hid (body (s.data.toList.take (k + 1)) = body (s.data.toList.take k) ++ qc c) := by
        rw [take_byte s k hlt, body_append, ← hc]
        exact congrArg _ (List.append_nil _)
      have hbl := body_length (s.data.toList.take k)
      have htl : (s.data.toList.take k).length ≤ k := List.length_take_le _ _
      have hroom : (Lib.byteCells (34 :: body (s.data.toList.take k))).length + 2 ≤ 140737488355328 := by
        rw [Lib.byteCells_length, List.length_cons]; omega
      have hsz := HB.out.size
      clear hbl htl
      rcases case_c c with ⟨m, hm5, hi, hq⟩ | ⟨hi, hq⟩
      · have HQ := Lib.hid hq
        rw [hc] at hi
        clear hc hq
        go_wp2_with fail
        go_quiet ((go_at_call 20; exact Calls.quiet_of_same (plain_at _ _ HTr.out)))
        go_wp2_with fail
        refine (Build.writeByte w.heap.size w.heap.size (Lib.byteCells (34 :: body (s.data.toList.take k))) 92 (wr.drewN _) (by exact HI.out) (by omega) hsz).mono ?_
        rintro e w2 ⟨rfl, h1, b2⟩
        have HB2 : Hid (Below w.heap.size w w2) := (below_drewN' HB.out _).trans b2
        have HI2 : Hid (Lib.IsBuilder 53 5 w.heap.size w.heap.size (Lib.byteCells (34 :: body (s.data.toList.take k) ++ [92])) w2) := by
          rw [← cells_snoc]; exact h1
        clear h1 b2
        have hcell : w2.cell? ⟨1, m, none⟩ = some (.int .u8 ((signsL[m]'hm5).toNat : Int)) := (HT.out.below HB2.out).2 m hm5
        have hlen2 : (Lib.byteCells (34 :: body (s.data.toList.take k) ++ [92])).length + 1 ≤ 140737488355328 := by
          rw [Lib.byteCells_length] at hroom ⊢
          rw [List.length_append]
          simp only [List.length_cons, List.length_nil] at hroom ⊢
          omega
        have hsz2 := HB2.out.size
        go_wp2_with fail
        refine (Build.writeByte w.heap.size w.heap.size _ _ w2 HI2.out hlen2 hsz2).mono ?_
        rintro e w3 ⟨rfl, h1, b3⟩
        have HB3 : Hid (Below w.heap.size w w3) := HB2.out.trans b3
        have HI3 : Hid (Lib.IsBuilder 53 5 w.heap.size w.heap.size (Lib.byteCells (34 :: body (s.data.toList.take (k + 1)))) w3) := by
          have e1 : 34 :: body (s.data.toList.take (k + 1)) = (34 :: body (s.data.toList.take k) ++ [92]) ++ [signsL[m]'hm5] := by
            rw [HS.out, HQ.out]; simp
          rw [e1, ← cells_snoc]; exact h1
        clear h1 b3 hcell
        go_wp2_with fail
        exact ⟨⟨k + 1, by go_num, by omega, HI3, HB3⟩, by simp [intOf]; omega⟩
      · have HQ := Lib.hid hq
        have HC := Lib.hid hc
        rw [hc] at hi
        clear hc hq
        go_wp2_with fail
        go_quiet ((go_at_call 20; exact Calls.quiet_of_same (plain_at _ _ HTr.out)))
        go_wp2_with fail
        refine (Build.writeByte w.heap.size w.heap.size (Lib.byteCells (34 :: body (s.data.toList.take k))) _ (wr.drewN _) (by exact HI.out) (by omega) hsz).mono ?_
        rintro e w3 ⟨rfl, h1, b3⟩
        have HB3 : Hid (Below w.heap.size w w3) := (below_drewN' HB.out _).trans b3
        have HI3 : Hid (Lib.IsBuilder 53 5 w.heap.size w.heap.size (Lib.byteCells (34 :: body (s.data.toList.take (k + 1)))) w3) := by
          have e1 : 34 :: body (s.data.toList.take (k + 1)) = (34 :: body (s.data.toList.take k)) ++ [s[k]] := by
            rw [HS.out, HQ.out, HC.out]; rfl
          rw [e1, ← cells_snoc]; exact h1
        clear h1 b3
        go_wp2_with fail
        exact ⟨⟨k + 1, by go_num, by omega, HI3, HB3⟩, by simp [intOf]; omega⟩
    · obtain rfl : k = s.size := by omega
      have hall : s.data.toList.take s.size = s.data.toList := List.take_of_length_le (by simp)
      have HI4 : Hid (Lib.IsBuilder 53 5 w.heap.size w.heap.size (Lib.byteCells (34 :: body s.data.toList)) wr) := by
        have := HI.out
        rw [hall] at this
        exact this
      have hsz := HB.out.size
      clear hall
      go_wp2_with fail
      refine (Tryd.Builder_String_any w.heap.size w.heap.size (34 :: body s.data.toList) wr HI4.out hsz).mono ?_
      rintro e w2 ⟨rfl, b2⟩
      have hbl := body_length s.data.toList
      have hds : s.data.toList.length = s.size := by simp
      have HB2 : Hid (Below w.heap.size w w2) := HB.out.trans b2
      go_wp2_with fail
      go_ret
      exact ⟨congrArg (fun x => Ending.returned (.string x)) (str_app (34 :: body s.data.toList) [34]), HB2.out⟩
end Go.Proofs.YtbldognffppeiaaDoor
