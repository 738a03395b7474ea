/- The reference's Sum, walked. -/
import Derived.Test.YtmaknbcfnigbmaaDoorWalkSum
import Derived.Test.YtmaknbcfnigbmaaDoorRefC
import Derived.Laws.AppendOwnNone
namespace Go.Proofs.YtmaknbcfnigbmaaDoor
open Go.RowKit Sha
set_option linter.unusedSimpArgs false
/-- What stands while the reference's blocks are taken in. -/
def SumR (gk : Nat) (s : List UInt32) (w W : World) : Prop :=
  Blk W w.heap.size 41 (cellsB (List.replicate 32 0)) ∧ Blk W (w.heap.size + 1) 79 (cellsW s) ∧ Blk W gk 67 (cellsW cubes) ∧ w.heap.size + 1 < gk ∧ Below w.heap.size w W
section
variable {gk : Nat} {s : List UInt32} {w W W' : World}
theorem SumR.below (h : SumR gk s w W) (hb : Below W.heap.size W W') : SumR gk s w W' :=
  ⟨h.1.below hb h.1.lt, h.2.1.below hb h.2.1.lt, h.2.2.1.below hb h.2.2.1.lt, h.2.2.2.1, below_step' h.2.2.2.2 hb⟩
theorem SumR.below2 (h : SumR gk s w W) (hb : Below (gk + 1) W W') : SumR gk s w W' :=
  have h4 := h.2.2.2.1
  ⟨h.1.below hb (by omega), h.2.1.below hb (by omega), h.2.2.1.below hb (by omega), h4, h.2.2.2.2.trans (hb.mono (by omega))⟩
theorem SumR.drew (h : SumR gk s w W) : SumR gk s w W.drew := ⟨h.1, h.2.1, h.2.2.1, h.2.2.2.1, below_drewN' h.2.2.2.2 1⟩
theorem SumR.row (h : SumR gk s w W) (s' : List UInt32) : SumR gk s' w (W.setRow (w.heap.size + 1) (cellsW s')) :=
  have h4 := h.2.2.2.1
  ⟨h.1.rowFar (by omega) _, h.2.1.row _, h.2.2.1.rowFar (by omega) _, h4, below_setRow h.2.2.2.2 (by omega) _⟩
theorem SumR.size (h : SumR gk s w W) : gk + 1 ≤ W.heap.size := h.2.2.1.lt
end
/-- The digest's bytes that the reference has laid after k rounds. -/
def laidE (x : List UInt32) (k : Nat) : List UInt8 := (outB x).take k ++ List.replicate (32 - k) 0
theorem laidE_length (x : List UInt32) (k : Nat) (hx : x.length = 8) (hk : k ≤ 32) : (laidE x k).length = 32 := by
  simp [laidE, outB_length, hx]; omega
theorem beB4_at (v r : Nat) (hr : r < 4) : (beB 4 v)[r]? = some (UInt8.ofNat (v / 2 ^ (24 - 8 * r))) := by
  have : r = 0 ∨ r = 1 ∨ r = 2 ∨ r = 3 := by omega
  rcases this with rfl | rfl | rfl | rfl <;> simp [beB]
theorem outB_at (x : List UInt32) : ∀ k, k < 4 * x.length → (outB x)[k]? = some (UInt8.ofNat ((x.getD (k / 4) 0).toNat / 2 ^ (24 - 8 * (k % 4)))) := by
  induction x with
  | nil => intro k hk; simp at hk
  | cons v x ih =>
    intro k hk
    have e : outB (v :: x) = beB 4 v.toNat ++ outB x := rfl
    rw [e]
    by_cases h4 : k < 4
    · rw [List.getElem?_append_left (by rw [beB_length]; exact h4), beB4_at _ _ h4]
      have e1 : k / 4 = 0 := by omega
      have e2 : k % 4 = k := by omega
      rw [e1, e2]
      rfl
    · rw [List.getElem?_append_right (by rw [beB_length]; omega), beB_length, ih (k - 4) (by simp at hk; omega)]
      have e1 : k / 4 = (k - 4) / 4 + 1 := by omega
      have e2 : k % 4 = (k - 4) % 4 := by omega
      rw [e1, e2]
      rfl
theorem laidE_step (x : List UInt32) (k : Nat) (hx : x.length = 8) (hk : k < 32) : (laidE x k).set k (UInt8.ofNat ((x.getD (k / 4) 0).toNat / 2 ^ (24 - 8 * (k % 4)))) = laidE x (k + 1) := by
  have h1 := outB_at x k (by omega)
  obtain ⟨hlt, h2⟩ := List.getElem?_eq_some_iff.1 h1
  unfold laidE
  have e : List.replicate (32 - k) (0 : UInt8) = 0 :: List.replicate (32 - (k + 1)) 0 := by
    rw [show 32 - k = (32 - (k + 1)) + 1 by omega, List.replicate_succ]
  have hl : ((outB x).take k).length = k := by rw [List.length_take]; omega
  rw [e, List.set_append_right _ _ (by omega), hl, Nat.sub_self, List.set_cons_zero, List.take_succ_eq_append_getElem hlt, h2, List.append_assoc]
  rfl
theorem laidE_full (x : List UInt32) (hx : x.length = 8) : laidE x 32 = outB x := by
  unfold laidE
  rw [List.take_of_length_le (by rw [outB_length, hx]; decide)]
  exact List.append_nil _
/-- An append of whatever, nil let in, to what is owned. -/
theorem append_any {P : Program} {w : World} {ops : Array Oper} {rest : List Oper} {o : Oper} {a : Act} {Q : Exit → Act → World → Prop} (hgd : o.guard = none) (s x : Operand) (t : TypeId)
    (ho : o.op = .call { callee := .builtin .append, args := #[s, x], argTypes := #[t, t] })
    (base : Nat) (e : TypeId) (i : TypeInfo) (z : Value) (bytes : Nat) (ht : P.underlying t = some (.slice e)) (hi : P.info? e = some i) (hz : i.zero = some z)
    (hsize : i.size = 1) (hby : i.bytes = bytes) (hzs : z.cells.size = 1)
    (v : Value) (n : Nat) (xs : List Value) (hs : a.eval s = v) (hown : w.ownsRow base e 1 v n xs)
    (A : Option Addr) (m c : Nat) (news : List Value) (hx : a.eval x = .slice A m c) (hl : news.length = m) (hnone : A = none → m = 0 ∧ c = 0) (hnews : ∀ ad, A = some ad → ∀ j u, news[j]? = some u → w.cell? (ad.add j) = some u) (h1 : ∀ u ∈ news, u.oneCell' = true)
    (h63 : n + m ≤ maxLen) (hbytes : (n + m) * bytes ≤ 140737488355328) (hbase : base ≤ w.heap.size)
    (h : ∀ v' w', w'.ownsRow base e 1 v' (n + m) (xs ++ news) → Below base w w' → wpList P ops Q rest (a.put o.dst v') w') : wpList P ops Q (o :: rest) a w := by
  cases A with
  | none =>
    obtain ⟨rfl, rfl⟩ := hnone rfl
    obtain rfl : news = [] := List.eq_nil_of_length_eq_zero hl
    refine wpList_append_own_none hgd s x t ho base e i 1 ht hi v n xs hs hown hx ?_
    exact h v w (by simpa using hown) (Below.refl _ _)
  | some ad =>
    refine wpList_append_own _ hgd s x t ho base e i z 1 bytes ht hi hz hsize hby hzs (by decide) v n xs hs hown ad m c news hx (by omega) (hnews ad rfl) h1 h63 hbytes hbase ?_
    intro v' w' h2 h3 _
    exact h v' w' h2 ((Below.refl _ w).grown h3 hbase (fun k hk => (hown.lt k hk).1))

set_option maxHeartbeats 4000000 in
set_option maxRecDepth 100000 in
theorem refSum_any (A : Option Addr) (l : List UInt8) (c : Nat) (hl : l.length ≤ 70368744177664) (hlc : l.length ≤ c) (hA : A = none → c = 0) (w : World) (hr : ReadsB w A l) :
    Calls Tryd.prog 29 #[.slice A l.length c] w fun e w' => e = .returned (.agg (cellsB (sum l))) ∧ Below w.heap.size w w' := by
  obtain ⟨i0, hi, hz0, hz1, hz2⟩ := info_parts info5b
  have HR := Lib.hid hr
  have H0 := Lib.hid hz0
  have H1 := Lib.hid hz1
  have H2 := Lib.hid hz2
  have HII := Lib.hid hi
  clear hr hz0 hz1 hz2 hi
  go_enter Tryd.func29, Tryd.ntmps29
  go_upto_region 1 with (fail)
  change Code.wp _ _ _ _ (w.alloc (.cells (cellsB (List.replicate 32 0)) 41))
  have HBd := Lib.hid (Blk.new w 41 (cellsB (List.replicate 32 0)))
  have HW1 := Lib.hid ((Below.refl w.heap.size w).alloc (Nat.le_refl _) (.cells (cellsB (List.replicate 32 0)) 41))
  have hsz : (w.alloc (.cells (cellsB (List.replicate 32 0)) 41)).heap.size = w.heap.size + 1 := World.size_alloc _ _
  generalize w.alloc (.cells (cellsB (List.replicate 32 0)) 41) = W1 at *
  go_upto_region 2 with (fail)
  change Code.wp _ _ _ _ (W1.alloc (.cells (cellsW squares) 79))
  have HB2 : Hid (Blk (W1.alloc (.cells (cellsW squares) 79)) (w.heap.size + 1) 79 (cellsW squares)) := by have h := Blk.new W1 79 (cellsW squares); rw [hsz] at h; exact h
  have HBd2 := Lib.hid (HBd.out.alloc (.cells (cellsW squares) 79))
  have HW2 := Lib.hid (HW1.out.alloc (by omega) (.cells (cellsW squares) 79))
  have hsz2 : w.heap.size + 1 < (W1.alloc (.cells (cellsW squares) 79)).heap.size := by rw [World.size_alloc]; omega
  generalize W1.alloc (.cells (cellsW squares) 79) = W2 at *
  clear HBd HW1 hsz
  go_wp2_with fail
  refine (constants_any W2).mono ?_
  rintro e W3 ⟨rfl, hk3, hb3⟩
  generalize hgk : W2.heap.size = gk at *
  rw [← hgk] at hb3
  have HS := Lib.hid (show SumR gk squares w W3 from ⟨HBd2.out.below hb3 HBd2.out.lt, HB2.out.below hb3 HB2.out.lt, hk3, hsz2, below_step' HW2.out hb3⟩)
  clear hb3 hk3 HB2 HBd2 HW2 hgk
  have hsz3 := HS.out.size
  have HO0 : Hid ((W3.alloc (.cells #[] 5)).ownsRow (gk + 1) 5 1 (.slice (some ⟨W3.heap.size, 0, none⟩) 0 0) 0 []) := ⟨rfl, Or.inr ⟨W3.heap.size, 0, #[], rfl, hsz3, heap_alloc_new W3 _, Nat.le_refl _, Nat.zero_le _, rfl, rfl⟩⟩
  have HB0 : Hid (Below (gk + 1) W3 (W3.alloc (.cells #[] 5))) := (Below.refl _ _).alloc hsz3 _
  have hn1 : (Lib.byteCells l).length = l.length := Lib.byteCells_length l
  have hn2 : A = none → l.length = 0 ∧ c = 0 := fun h => by have := hA h; omega
  have HN1 := Lib.hid hn1
  have HN2 := Lib.hid hn2
  have HRN : Hid (∀ ad, A = some ad → ∀ j u, (Lib.byteCells l)[j]? = some u → (W3.alloc (.cells #[] 5)).cell? (ad.add j) = some u) := reads_news HR.out (HS.out.below2 HB0.out).2.2.2.2
  clear hn1 hn2 hA
  go_upto_region 4 with (first
    | (at_builtin; refine append_any rfl (.tmp 13) (.tmp 14) 22 rfl (gk + 1) 5 i0 (.int .u8 0) 1 Tryd.underlying22 HII.out H0.out H1.out H2.out rfl _ 0 [] rfl HO0.out A l.length c (Lib.byteCells l) rfl HN1.out HN2.out HRN.out (bytes_one l) (by unfold maxLen; omega) (by omega) (by simp; omega) ?_; intro v1 w1 hown1 hb1; have HO1 : Hid (w1.ownsRow (gk + 1) 5 1 v1 l.length (Lib.byteCells l)) := (by have h := hown1; rw [Nat.zero_add, List.nil_append] at h; exact h); have HB1 := Lib.hid (HB0.out.trans hb1); have hsz1 : gk + 1 ≤ w1.heap.size := Nat.le_trans hsz3 HB1.out.size; clear hown1 hb1)
    | (at_builtin; refine append_any rfl (.tmp 15) (.tmp 16) 22 rfl (gk + 1) 5 i0 (.int .u8 0) 1 Tryd.underlying22 HII.out H0.out H1.out H2.out rfl _ l.length (Lib.byteCells l) rfl (HO1.out.alloc _) (some ⟨w1.heap.size, 0, none⟩) 1 1 [.int .u8 128] rfl rfl (fun h => by cases h) (fun ad h => by cases h; exact cell_one_new _ _ _) (fun u hu => by simp at hu; subst hu; rfl) (by unfold maxLen; omega) (by omega) (by simp; omega) ?_; intro v2 w2 hown2 hb2))
  have hf2 := hown2.form (by omega)
  obtain ⟨g3, cap3, hv3, hg3, _⟩ := hf2
  rw [hv3] at hown2 ⊢
  have HO3 := Lib.hid hown2
  have hb2' : Below (gk + 1) w1 w2 := ((Below.refl (gk + 1) w1).alloc hsz1 (.cells #[.int .u8 128] 5)).trans hb2
  have HS3 := Lib.hid (HS.out.below2 (HB1.out.trans hb2'))
  clear hown2 hb2 hb2' hv3 HO0 HB0 HO1 HB1 HRN HS hsz1 hsz3 hsz2
  go_loopw [5] (fun t5 wq => ∃ z n g cap : Nat, Hid (n = l.length + 1 + z) ∧ z ≤ padZ l.length ∧ n ≤ l.length + 100 ∧ t5 = .slice (some ⟨g, 0, none⟩) n cap ∧ Hid (wq.ownsRow (gk + 1) 5 1 (.slice (some ⟨g, 0, none⟩) n cap) n (Lib.byteCells (l ++ 128 :: List.replicate z 0))) ∧ Hid (SumR gk squares w wq)) (fun t5 _ => match t5 with | .slice _ n _ => l.length + 200 - n | _ => 0)
  case atStart => exact ⟨0, l.length + 1, g3, cap3, rfl, Nat.zero_le _, by omega, rfl, by have h := HO3.out; rw [Hid, List.replicate_zero, Lib.byteCells_append]; exact h, HS3⟩
  case round =>
    clear HO3 HS3
    obtain ⟨z, n, g, cap, HN, hz, hn128, rfl, HO, HS⟩ := hrel
    have hpz := padZ_lt l.length
    have hsz := HS.out.size
    have hlt : gk + 1 ≤ g := (HO.out.lt g rfl).1
    have hpm := padZ_mod l.length
    by_cases h56 : n % 64 = 56
    · have hzz : z = padZ l.length := by have h1 := HN.out; omega
      have hb : ((n : Int) % 64 != 56) = false := by rw [bne_eq_false_iff_eq]; omega
      have HBy : Hid (∀ W, Calls Tryd.prog 43 #[.int .u64 ((l.length : Int) * 8), .int .i64 8] W fun e w' => e = .returned (.tuple #[.slice (some ⟨W.heap.size, 0, none⟩) 8 8, .int .i64 0]) ∧ Blk w' W.heap.size 5 (cellsB (beB 8 (8 * l.length))) ∧ Below W.heap.size W w') := fun W => by
        have h := refBytes_any (8 * l.length) 8 (by omega) (by decide) (by decide) W
        rw [show ((8 * l.length : Nat) : Int) = (l.length : Int) * 8 by omega] at h
        exact h
      have HLE : Hid ((Lib.byteCells (beB 8 (8 * l.length))).length = 8 * 1) := by rw [Hid, Lib.byteCells_length, beB_length]
      have HTT : Hid (l ++ 128 :: List.replicate z 0 ++ beB 8 (8 * l.length) = l ++ padOf l.length) := by
        rw [Hid, hzz, List.append_assoc]
        rfl
      have HTL : Hid (n + 8 = (l ++ padOf l.length).length) := by
        rw [Hid, List.length_append, padOf_length]
        have := HN.out
        omega
      clear hzz hpm
      go_wp2_with fail
      refine (HBy.out _).mono ?_
      rintro e w4 ⟨rfl, hbk, hb4⟩
      have HO4 := Lib.hid (own_below HO.out hb4)
      have HS4 := Lib.hid (HS.out.below hb4)
      have HNW : Hid (∀ j u, (Lib.byteCells (beB 8 (8 * l.length)))[j]? = some u → w4.cell? ((⟨wr.heap.size, 0, none⟩ : Addr).add j) = some u) := reads_news (hbk.reads) (Below.refl _ _) _ rfl
      have hsz4 := HS4.out.size
      clear hbk hb4
      go_upto_region 8 with (at_builtin; refine wpList_append_own _ rfl (.tmp 33) (.tmp 34) 22 rfl (gk + 1) 5 i0 (.int .u8 0) 1 1 Tryd.underlying22 HII.out H0.out H1.out H2.out rfl (by decide) _ _ _ rfl HO4.out ⟨wr.heap.size, 0, none⟩ 8 8 (Lib.byteCells (beB 8 (8 * l.length))) rfl HLE.out HNW.out (bytes_one _) (by unfold maxLen; omega) (by omega) (by omega) ?_; intro v3 w3 hown3 hgrow3 _)
      have hf3 := hown3.form (by omega)
      obtain ⟨g3, cap3, hv3, hg3, _⟩ := hf3
      rw [hv3] at hown3 ⊢
      have HB3 : Hid (Below (gk + 1) w4 w3) := (Below.refl _ w4).grown hgrow3 hsz4 (fun k h => by cases h; exact hlt)
      have HO5 : Hid (w3.ownsRow (gk + 1) 5 1 (.slice (some ⟨g3, 0, none⟩) (l ++ padOf l.length).length cap3) (l ++ padOf l.length).length (Lib.byteCells (l ++ padOf l.length))) := by
        have h := hown3
        rw [← Lib.byteCells_append, HTT.out, HTL.out] at h
        exact h
      have hcap : n + 8 ≤ cap3 := by
        rcases hown3.2 with ⟨h1, _⟩ | ⟨_, _, _, h1, _, _, h2, _⟩
        · cases h1
        · injection h1 with _ _ h3; omega
      have HR5 := Lib.hid (own_reads HO5.out)
      have HS5 := Lib.hid (HS4.out.below2 HB3.out)
      have HMD : Hid ((l ++ padOf l.length).length % 64 = 0) := by
        rw [Hid, List.length_append, padOf_length]
        have := padZ_mod l.length
        omega
      have HSE : Hid (sum l = outB (sumBlocks squares ((l ++ padOf l.length).length / 64) (l ++ padOf l.length))) := by
        rw [Hid, List.length_append, padOf_length]
        unfold sum
        congr 3
        omega
      clear hown3 hgrow3 hv3 HO4 HS4 HB3 HO5 HNW HTT HO HS hsz4
      generalize l ++ padOf l.length = T at *
      rw [HTL.out]
      have hT : T.length ≤ 70368744177664 + 1000 := by have := HTL.out; omega
      have hcap' : T.length ≤ cap3 := by have := HTL.out; omega
      go_wp2_with fail
      go_loopw [8] (fun t8 wr => ∃ i j : Nat, t8 = .int .i64 (i : Int) ∧ Hid (i = 64 * j) ∧ i ≤ T.length ∧ Hid (ReadsB wr (some ⟨g3, 0, none⟩) T) ∧ Hid (SumR gk (sumBlocks squares j T) w wr)) (fun t8 _ => T.length - (intOf t8).toNat)
      case atStart => exact ⟨0, 0, rfl, rfl, Nat.zero_le _, HR5, HS5⟩
      case round =>
        clear HS5 HR5 hcap
        obtain ⟨i, j, rfl, HI, hil, HRB, HS⟩ := hrel
        have HB : Hid (sumBlocks squares (j + 1) T = addB (sumBlocks squares j T) ((T.drop (64 * j)).take 64)) := sumBlocks_take j squares T
        have HL9 : Hid ((sumBlocks squares j T).length = 8) := sumBlocks_length j squares T
        have HL10 : Hid ((sumBlocks squares (j + 1) T).length = 8) := sumBlocks_length (j + 1) squares T
        by_cases hlt : i < T.length
        · have hge : i + 64 ≤ T.length := by have h1 := HI.out; have h2 := HMD.out; omega
          generalize sumBlocks squares j T = x at *
          have hi1 : (Tryd.prog.info? 79).map (·.size) = some (x.map fun b => Value.int .u32 (b.toNat : Int)).length := by rw [List.length_map, HL9.out]; kernel_rfl
          have hc0 : Hid (∀ c' W, 64 ≤ c' → Hid (SumR gk x w W) → Hid (ReadsB W (some ⟨g3, 0, none⟩) T) → Calls Tryd.prog 44 #[.agg (cellsW x), .slice (some ⟨g3, i, none⟩) 64 c', .slice (some ⟨gk, 0, none⟩) 64 64] W fun r W' => r = .returned (.agg (cellsW (sumBlocks squares (j + 1) T))) ∧ Hid (SumR gk x w W') ∧ Hid (ReadsB W' (some ⟨g3, 0, none⟩) T)) :=
            fun c' W hc' h k => by
              have hrd : ReadsB W (some ⟨g3, i, none⟩) ((T.drop (64 * j)).take 64) := by
                have h1 := k.out.sub (64 * j) 64
                rw [← HI.out, Addr.add_mid, Nat.zero_add] at h1
                rw [← HI.out]
                exact h1
              rw [HB.out]
              exact (block_any ⟨g3, i, none⟩ ((T.drop (64 * j)).take 64) c' x ⟨gk, 0, none⟩ 64 (by rw [List.length_take, List.length_drop, ← HI.out]; omega) hc' HL9.out W hrd (fun r hr => by
                rw [Addr.add_mid, Nat.zero_add, h.out.2.2.1.cell]
                exact cellsW_getD _ _ hr)).mono fun r W' ⟨h1, h2⟩ => ⟨h1, h.out.below h2, k.out.below h2⟩
          have HS9 : Hid ((cellsW (sumBlocks squares (j + 1) T)).size = 8) := by rw [Hid, cellsW_size]; exact HL10.out
          have HS7 : Hid ((cellsW x).size = 8) := by rw [Hid, cellsW_size]; exact HL9.out
          generalize hs' : sumBlocks squares (j + 1) T = s' at *
          have HSS := Lib.hid hs'
          clear hs'
          have hw64 : IntKind.i64.wrap ((i : Int) + 64) = (i : Int) + 64 := IntWalk.i64_in _ (by omega)
          have hb1 : 0 ≤ (i : Int) + 64 ∧ (i : Int) + 64 ≤ (cap3 : Int) ∧ (i : Int) ≤ (i : Int) + 64 := by omega
          have hb2 : ((i : Int) + 64).toNat = i + 64 := by omega
          have hic : ¬ cap3 = i := by omega
          have h4 := HS.out.2.2.2.1
          go_wp2_with fail
          refine wp_region_still_tail 7 (by kernel_rfl) (by kernel_rfl) ?_
          simp only [List.take_succ_cons, List.take_zero, List.drop_succ_cons, List.drop_zero]
          change wpStill _ _ (wr.drewN 1) _ _ _
          refine stillO rfl 79 (.tmp 3) rfl (w.heap.size + 1) 0 rfl (x.map fun b => Value.int .u32 (b.toNat : Int)) _ (blk_rangeW (HS.out.2.1.drewN 1)) Tryd.underlying79 rfl hi1 ?_
          simp only [Act.put, List.setIfInBounds_toArray, List.set_cons_zero, List.set_cons_succ]
          repeat still_step
          refine wpStill_nil ?_
          have HSd : Hid (SumR gk x w (wr.drewN 1)) := HS.out.drew
          have HRd : Hid (ReadsB (wr.drewN 1) (some ⟨g3, 0, none⟩) T) := HRB.out.drewN 1
          change wpList _ _ _ _ _ (wr.drewN 1)
          generalize wr.drewN 1 = W5 at *
          clear HS HRB hw64
          go_wp2_with fail
          refine (hc0.out _ _ (by omega) HSd HRd).mono ?_
          rintro r W3' ⟨rfl, HS3, HR3⟩
          have HBx : Hid (Blk W3' (w.heap.size + 1) 79 (cellsW x)) := HS3.out.2.1
          go_wp2_with (refine wpList_store_row (by rfl) 79 (.tmp 3) (.tmp 49) (by rfl) (w.heap.size + 1) (cellsW s') (by rfl) (by rfl) 79 _ HBx.out (by rw [HS9.out]; kernel_rfl) (by rw [HS9.out]; exact HS7.out) (cellsW_one _) ?_)
          go_roundw
          case rel =>
            refine ⟨i + 64, j + 1, by go_num, by have := HI.out; rw [Hid]; omega, hge, HR3.out.rowFar _ (fun q h => by cases h; show g3 ≠ _; omega) _, ?_⟩
            rw [HSS.out]
            exact HS3.out.row s'
          case measure => simp [intOf]; omega
        · have hq : j = T.length / 64 := by have := HI.out; omega
          have HF : Hid (sum l = outB (sumBlocks squares j T)) := by rw [Hid, hq]; exact HSE.out
          clear hq HB HL10 HSE
          generalize sumBlocks squares j T = x at *
          have HBx : Hid (Blk wr (w.heap.size + 1) 79 (cellsW x)) := HS.out.2.1
          have HBr : Hid (Blk wr w.heap.size 41 (cellsB (List.replicate 32 0))) := HS.out.1
          have HBw : Hid (Below w.heap.size w wr) := HS.out.2.2.2.2
          have hbig := HS.out.size
          have hgk4 := HS.out.2.2.2.1
          clear HS
          go_upto_region 13 with (fail)
          change Code.wp _ _ _ _ (wr.alloc (.cells (cellsB (List.replicate 32 0)) 41))
          have KBx := Lib.hid (HBx.out.alloc (.cells (cellsB (List.replicate 32 0)) 41))
          have KBr := Lib.hid (HBr.out.alloc (.cells (cellsB (List.replicate 32 0)) 41))
          have KBw := Lib.hid (HBw.out.alloc (by omega) (.cells (cellsB (List.replicate 32 0)) 41))
          have KBd := Lib.hid (Blk.new wr 41 (cellsB (List.replicate 32 0)))
          generalize wr.alloc (.cells (cellsB (List.replicate 32 0)) 41) = W7 at *
          generalize wr.heap.size = gd at *
          clear HBx HBr HBw
          go_wp2_with fail
          go_loopw [10] (fun t10 wr => ∃ k : Nat, t10 = .int .i64 k ∧ k ≤ 32 ∧ Hid (Blk wr gd 41 (cellsB (laidE x k))) ∧ Hid (Blk wr (w.heap.size + 1) 79 (cellsW x)) ∧ Hid (Blk wr w.heap.size 41 (cellsB (List.replicate 32 0))) ∧ Hid (Below w.heap.size w wr)) (fun t10 _ => 32 - (intOf t10).toNat)
          case atStart => exact ⟨0, rfl, by omega, by have h := KBd.out; simpa [Hid, laidE] using h, KBx, KBr, KBw⟩
          case round =>
            clear KBx KBr KBw KBd
            obtain ⟨k, rfl, hk, KBd, KBx, KBr, KBw⟩ := hrel
            by_cases hlt32 : k < 32
            · have hk0 : (0 : Int) ≤ (k : Int) := by omega
              have hk32 : (k : Int) < 32 := by omega
              have y1 := (Blk.cell KBx.out (k / 4)).trans (cellsW_getD x (k / 4) (by rw [HL9.out]; omega))
              have y2 := (Blk.cell KBd.out k).trans (cellsB_get _ k (by rw [laidE_length x k HL9.out hk]; exact hlt32))
              have yf := Blk.frozen KBd.out k
              have HST := Lib.hid (laidE_step x k HL9.out hlt32)
              generalize x.getD (k / 4) 0 = xv at *
              have hgd0 : w.heap.size ≤ gd := by omega
              have hgd1 : w.heap.size + 1 ≠ gd := by omega
              have hgd2 : w.heap.size ≠ gd := by omega
              have HE : Hid ((xv.toNat : Int) / 2 ^ (24 - 8 * (k % 4)) % 256 = (((UInt8.ofNat (xv.toNat / 2 ^ (24 - 8 * (k % 4)))).toNat : Nat) : Int)) := by
                rw [Hid, UInt8.toNat_ofNat', Int.natCast_emod, Int.natCast_ediv, Int.natCast_pow]
                rfl
              have G0 := Lib.hid hgd0
              have G1 := Lib.hid hgd1
              have G2 := Lib.hid hgd2
              clear hgd0 hgd1 hgd2
              go_wp2_with fail
              go_roundw
              case rel =>
                refine ⟨k + 1, by go_num, by omega, ?_, KBx.out.far (p := ⟨gd, k, none⟩) G1.out _, KBr.out.far (p := ⟨gd, k, none⟩) G2.out _, KBw.out.setCell (p := ⟨gd, k, none⟩) G0.out _⟩
                rw [HE.out, ← HST.out, ← cellsB_set]
                exact KBd.out.set_ k _
              case measure => simp [intOf]; omega
            · obtain rfl : k = 32 := by omega
              have KF : Hid (Blk wr gd 41 (cellsB (sum l))) := by have h := KBd.out; rw [laidE_full x HL9.out, ← HF.out] at h; exact h
              have HSZ : Hid ((cellsB (sum l)).size = 32) := by rw [Hid, cellsB_size, sum_length]
              clear KBd
              go_wp2_with (first
                | (refine wpList_load_row rfl 41 (.tmp 9) rfl gd rfl 41 (cellsB (sum l)) (0, 0) _ KF.out Tryd.underlying41 rfl (by rw [HSZ.out]; kernel_rfl) ?_)
                | (refine wpList_store_row rfl 41 (.tmp 2) (.tmp 67) rfl w.heap.size (cellsB (sum l)) rfl rfl 41 _ KBr.out (by rw [HSZ.out]; kernel_rfl) (by rw [HSZ.out, cellsB_size, List.length_replicate]) (cellsB_one _) ?_))
              refine bodyPost_ret (results_cell_row rfl _ _ w.heap.size 41 (cellsB (sum l)) _ _ rfl (Blk.row KBr.out _) Tryd.underlying41 rfl (by rw [HSZ.out]; kernel_rfl)) rfl ?_
              exact ⟨rfl, below_setRow KBw.out (Nat.le_refl _) _⟩
    · have hz2 : z < padZ l.length := by
        rcases Nat.lt_or_eq_of_le hz with h1 | h1
        · exact h1
        · have h2 := HN.out; subst h1; omega
      have hb : ((n : Int) % 64 != 56) = true := by rw [bne_iff_ne]; omega
      have hn2 : n + 1 ≤ l.length + 100 := by have h1 := HN.out; omega
      clear hpm
      go_wp2_with (at_builtin; refine wpList_append_own _ rfl _ _ 22 rfl (gk + 1) 5 i0 (.int .u8 0) 1 1 Tryd.underlying22 HII.out H0.out H1.out H2.out rfl (by decide) _ _ _ rfl (HO.out.alloc _) ⟨wr.heap.size, 0, none⟩ 1 1 [.int .u8 0] rfl rfl (cell_one_new _ _ _) (fun u hu => by simp at hu; subst hu; rfl) (by unfold maxLen; omega) (by omega) (by simp; omega) ?_; intro v3 w3 hown3 hgrow3 _)
      have hf3 := hown3.form (by omega)
      obtain ⟨g3, cap3, hv3, hg3, _⟩ := hf3
      rw [hv3] at hown3 ⊢
      have HB3 : Hid (Below (gk + 1) wr w3) := ((Below.refl _ wr).alloc hsz _).grown hgrow3 (by simp; omega) (fun k h => by cases h; exact hlt)
      refine ⟨⟨z + 1, n + 1, g3, cap3, ?_, by omega, hn2, rfl, ?_, HS.out.below2 HB3.out⟩, by simp; omega⟩
      · have h1 := HN.out; rw [Hid]; omega
      · rw [pad_cells]; exact hown3
end Go.Proofs.YtmaknbcfnigbmaaDoor
