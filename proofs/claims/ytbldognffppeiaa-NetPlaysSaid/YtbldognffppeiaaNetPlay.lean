/- NetPlays: both networks side by side, request by request. -/
import Derived.Test.YtbldognffppeiaaNetBump
namespace Go.Proofs.Ytbldognffppeiaa
open Go.RowKit Go.Maps
set_option linter.unusedSimpArgs false
set_option linter.unusedVariables false
structure Play (S : Nat → Prop) (ws : World) (gn rn lo hi : Nat) (fs : List (ByteArray × List UInt8)) (zs : List Int) (a b : Nat) (W : World) : Prop where
  net : NetOf W gn fs zs a lo hi
  ref : RefOf S W rn fs zs b
  below : Below ws.heap.size ws W
  hi_rn : hi ≤ rn
  low : ws.heap.size ≤ lo
  S_lt : ∀ k, S k → k < lo
section
variable {S : Nat → Prop} {ws : World} {gn rn lo hi : Nat} {fs : List (ByteArray × List UInt8)} {zs : List Int} {a b a' b' : Nat} {W W' : World}
theorem Play.rn_lt (h : Play S ws gn rn lo hi fs zs a b W) : rn < W.heap.size := by
  obtain ⟨_, _, _, _, h1, _⟩ := h.ref
  exact (Array.getElem?_eq_some_iff.1 h1).1
theorem Play.hi_le (h : Play S ws gn rn lo hi fs zs a b W) : hi ≤ W.heap.size := by have := h.rn_lt; have := h.hi_rn; omega
theorem Play.netStep (h : Play S ws gn rn lo hi fs zs a b W) (hg : W.grownBy W' (some gn)) (hN : NetOf W' gn fs zs a' lo hi) : Play S ws gn rn lo hi fs zs a' b W' := by
  have hb := h.net.bounds
  have hr := h.hi_rn
  have hl := h.low
  refine ⟨hN, h.ref.kept (fun k hk hlt => hg.block k hlt (fun e => ?_)), h.below.trans (grown_below hg (by omega) h.below.size), h.hi_rn, h.low, h.S_lt⟩
  have e2 : k = gn := by injection e
  rcases hk with hk | hk
  · have := h.S_lt k hk; omega
  · omega
theorem Play.refStep (h : Play S ws gn rn lo hi fs zs a b W) (hg : W.grownBy W' (some rn)) (hR : RefOf S W' rn fs zs b') : Play S ws gn rn lo hi fs zs a b' W' := by
  have hb := h.net.bounds
  have hr := h.hi_rn
  have hl := h.low
  have hh := h.hi_le
  refine ⟨h.net.kept (fun k _ h2 => hg.block k (by omega) (fun e => ?_)), hR, h.below.trans (grown_below hg (by omega) h.below.size), h.hi_rn, h.low, h.S_lt⟩
  have e2 : k = rn := by injection e
  omega
theorem Play.grown (h : Play S ws gn rn lo hi fs zs a b W) {B : Nat} (hb : Below B W W') (hB : rn < B) : Play S ws gn rn lo hi fs zs a b W' := by
  have h1 := h.net.bounds
  have hr := h.hi_rn
  have hl := h.low
  refine ⟨h.net.kept (fun k _ h2 => hb.block k (by omega)), h.ref.kept (fun k hk hlt => hb.block k ?_), h.below.trans (hb.mono (by omega)), h.hi_rn, h.low, h.S_lt⟩
  rcases hk with hk | hk
  · have := h.S_lt k hk; omega
  · omega
theorem Play.alloc (h : Play S ws gn rn lo hi fs zs a b W) (o : Obj) : Play S ws gn rn lo hi fs zs a b (W.alloc o) :=
  h.grown ((Below.refl W.heap.size W).alloc (Nat.le_refl _) o) h.rn_lt
theorem Play.drewN (h : Play S ws gn rn lo hi fs zs a b W) (n : Nat) : Play S ws gn rn lo hi fs zs a b (W.drewN n) :=
  h.grown (below_drewN' (Below.refl W.heap.size W) n) h.rn_lt
end
/-- What Get answers to any numbers. -/
def getW (fs : List (ByteArray × List UInt8)) (zs : List Int) (a : Nat) (nm : ByteArray) (fr ct : Int) : List UInt8 × Int × Nat :=
  if fr < 0 ∨ ct < 1 ∨ 65536 < ct then ([], 2, a) else ((getV fs (codeAt zs a) nm fr.toNat ct.toNat).1, (getV fs (codeAt zs a) nm fr.toNat ct.toNat).2, a + 1)
/-- The bytes that were handed out lie in a block behind the networks. -/
def OwnX (rn : Nat) (W : World) (A : Option Addr) (l : List UInt8) : Prop := (A = none ∧ l = []) ∨ ∃ gx, rn < gx ∧ A = some ⟨gx, 0, none⟩ ∧ Blk W gx 5 (cellsB l)
theorem OwnX.reads {rn : Nat} {W : World} {A : Option Addr} {l : List UInt8} (h : OwnX rn W A l) : ReadsB W A l := by
  rcases h with ⟨rfl, rfl⟩ | ⟨gx, _, rfl, hb⟩
  · exact ReadsB.nil _ _
  · exact hb.reads
theorem OwnX.kept {rn : Nat} {W W' : World} {A : Option Addr} {l : List UInt8} (h : OwnX rn W A l) (hg : W.grownBy W' (some rn)) : OwnX rn W' A l := by
  rcases h with ⟨rfl, rfl⟩ | ⟨gx, hr, rfl, hb⟩
  · exact .inl ⟨rfl, rfl⟩
  · have hne : some gx ≠ some rn := fun e => by
      have e2 : gx = rn := by injection e
      omega
    exact .inr ⟨gx, hr, rfl, (hg.block gx hb.lt hne).trans hb⟩
section
variable (S : Nat → Prop) (ws : World) (gn rn lo hi : Nat) (fs : List (ByteArray × List UInt8)) (zs : List Int) (a b : Nat) (W : World)
theorem play_get (hz : zs.length ≤ 1152921504606846976) (ha : a ≤ 1048576) (nm : ByteArray) (hnm : nm.size ≤ maxLen) (fr ct : Int) (hfr : fr ≤ 9223372036854775807) (h : Play S ws gn rn lo hi fs zs a b W) :
    Calls Try.prog 8 #[.pointer (some ⟨gn, 0, none⟩), .string nm, .int .i64 fr, .int .i64 ct] W fun e W' =>
      ∃ A, e = .returned (.tuple #[.slice A (getW fs zs a nm fr ct).1.length (getW fs zs a nm fr ct).1.length, .int .i64 (getW fs zs a nm fr ct).2.1]) ∧ OwnX rn W' A (getW fs zs a nm fr ct).1 ∧ Play S ws gn rn lo hi fs zs (getW fs zs a nm fr ct).2.2 b W' ∧ W.grownBy W' (some gn) := by
  unfold getW
  by_cases hbad : fr < 0 ∨ ct < 1 ∨ 65536 < ct
  · rw [if_pos hbad]
    refine (get_none gn fs zs a lo hi nm fr ct hbad W h.net).mono ?_
    rintro e W' ⟨rfl, rfl⟩
    exact ⟨none, rfl, .inl ⟨rfl, rfl⟩, h, World.grownBy.refl _ _⟩
  · rw [if_neg hbad]
    obtain ⟨p, rfl⟩ : ∃ p : Nat, fr = (p : Int) := ⟨fr.toNat, by omega⟩
    obtain ⟨q, rfl⟩ : ∃ q : Nat, ct = (q : Int) := ⟨ct.toNat, by omega⟩
    refine (get_net gn fs zs a lo hi hz ha nm hnm p q (by omega) (by omega) (by omega) W h.net h.hi_le).mono ?_
    rintro e W' ⟨A, rfl, h1, h2, h3⟩
    refine ⟨A, rfl, ?_, h.netStep h2 h3, h2⟩
    rcases h1 with h1 | ⟨gx, hgx, h1, hb⟩
    · exact .inl h1
    · exact .inr ⟨gx, Nat.lt_of_lt_of_le h.rn_lt hgx, h1, hb⟩
theorem play_refGet (hbig : Hid (anyBig fs = false)) (hn : fs.length ≤ maxLen) (hz : zs.length ≤ 1152921504606846976) (hb : b ≤ 1048576) (nm : ByteArray) (hnm : nm.size ≤ maxLen) (fr ct : Int) (hfr : fr ≤ 9223372036854775807) (h : Play S ws gn rn lo hi fs zs a b W) :
    Calls Try.prog 14 #[.pointer (some ⟨rn, 0, none⟩), .string nm, .int .i64 fr, .int .i64 ct] W fun e W' =>
      ∃ A c, e = .returned (.tuple #[.slice A (getW fs zs b nm fr ct).1.length c, .int .i64 (getW fs zs b nm fr ct).2.1]) ∧ ReadsB W' A (getW fs zs b nm fr ct).1 ∧ Play S ws gn rn lo hi fs zs a (getW fs zs b nm fr ct).2.2 W' ∧ W.grownBy W' (some rn) := by
  unfold getW
  by_cases hbad : fr < 0 ∨ ct < 1 ∨ 65536 < ct
  · rw [if_pos hbad]
    refine (refGet_bad rn nm fr ct hbad W).mono ?_
    rintro e W' ⟨rfl, rfl⟩
    exact ⟨none, 0, rfl, ReadsB.nil _ _, h, World.grownBy.refl _ _⟩
  · rw [if_neg hbad]
    obtain ⟨p, rfl⟩ : ∃ p : Nat, fr = (p : Int) := ⟨fr.toNat, by omega⟩
    obtain ⟨q, rfl⟩ : ∃ q : Nat, ct = (q : Int) := ⟨ct.toNat, by omega⟩
    refine (refGet_any S rn fs hbig zs b hn hz hb nm hnm p q (by omega) (by omega) (by omega) W h.ref).mono ?_
    rintro e W' ⟨⟨A, c, rfl, h0, h1⟩, h2, h3⟩
    exact ⟨A, c, rfl, h1, h.refStep h2 h3, h2⟩
theorem play_size (hz : zs.length ≤ 1152921504606846976) (ha : a ≤ 1048576) (nm : ByteArray) (hnm : nm.size ≤ maxLen) (h : Play S ws gn rn lo hi fs zs a b W) :
    Calls Try.prog 7 #[.pointer (some ⟨gn, 0, none⟩), .string nm] W fun e W' =>
      e = .returned (.tuple #[.int .i64 (sizeV fs (codeAt zs a) nm).1, .int .i64 (sizeV fs (codeAt zs a) nm).2]) ∧ Play S ws gn rn lo hi fs zs (a + 1) b W' ∧ W.grownBy W' (some gn) := by
  refine (size_net gn fs zs a lo hi hz ha nm hnm W h.net h.hi_le).mono ?_
  rintro e W' ⟨rfl, h2, h3⟩
  exact ⟨rfl, h.netStep h2 h3, h2⟩
theorem play_refSize (hbig : Hid (anyBig fs = false)) (hn : fs.length ≤ maxLen) (hz : zs.length ≤ 1152921504606846976) (hb : b ≤ 1048576) (nm : ByteArray) (hnm : nm.size ≤ maxLen) (h : Play S ws gn rn lo hi fs zs a b W) :
    Calls Try.prog 13 #[.pointer (some ⟨rn, 0, none⟩), .string nm] W fun e W' =>
      e = .returned (.tuple #[.int .i64 (sizeV fs (codeAt zs b) nm).1, .int .i64 (sizeV fs (codeAt zs b) nm).2]) ∧ Play S ws gn rn lo hi fs zs a (b + 1) W' ∧ W.grownBy W' (some rn) := by
  refine (refSize_any S rn fs hbig zs b hn hz hb nm hnm W h.ref).mono ?_
  rintro e W' ⟨rfl, h2, h3⟩
  exact ⟨rfl, h.refStep h2 h3, h2⟩
theorem play_asked (h : Play S ws gn rn lo hi fs zs a b W) : Calls Try.prog 9 #[.pointer (some ⟨gn, 0, none⟩)] W fun e W' => e = .returned (.int .i64 (a : Int)) ∧ W' = W :=
  (asked_net gn fs zs a lo hi W h.net).mono fun e W' ⟨h1, h2⟩ => ⟨h1, h2.symm⟩
end
theorem Play.refCount {S : Nat → Prop} {ws : World} {gn rn lo hi : Nat} {fs : List (ByteArray × List UInt8)} {zs : List Int} {a b : Nat} {W : World} (h : Play S ws gn rn lo hi fs zs a b W) : W.cell? ⟨rn, 2, none⟩ = some (.int .i64 (b : Int)) := by
  obtain ⟨A, cA, B, cB, h1, _⟩ := h.ref
  rw [cell_at h1]; rfl
/-- The blocks of the own list's files lie ahead of the networks, and beside all that the reference reads. -/
theorem Copies.rows_in {w : World} {fs : List (ByteArray × List UInt8)} {iO iL : Nat} {vO vL : Value} {RO RL : List (ByteArray × Value)} {W : World} (h : Copies w fs iO iL vO vL RO RL W) {k : Nat} (hk : InRows RO k) : w.heap.size ≤ k ∧ k < W.heap.size ∧ ¬ RefS w vL k := by
  obtain ⟨j, r, hr, hg⟩ := hk
  obtain ⟨f, Aj, cj, h1, rfl, h3, h4, h5, h6, h7, h8⟩ := h.recO j r hr
  have h9 := own_lt h6 hg
  refine ⟨h9.1, h9.2, fun hS => ?_⟩
  rcases hS with hS | hS
  · omega
  · exact h8 k hg hS
/-- Both networks stand when the bytes behind them have been changed. -/
theorem play_start {ws w4 w5 w6 W : World} {fs : List (ByteArray × List UInt8)} {zs : List Int} {n : Nat} {vO vL : Value} {RO RL : List (ByteArray × Value)} {gn rn : Nat} (h4 : Copies ws fs n n vO vL RO RL w4) (hN : NetOf w5 gn fs zs 0 w4.heap.size w5.heap.size) (hb6 : Below w5.heap.size w5 w6) (hr : w5.heap.size ≤ rn) (hb5 : Below w4.heap.size w4 w5) (hR : RefOf (RefS ws vL) w6 rn fs zs 0)
    (hbp : Bumped RO ws.heap.size w6 W) : Play (RefS ws vL) ws gn rn w4.heap.size w5.heap.size fs zs 0 0 W := by
  have hlow : ∀ k, InRows RO k → k < w4.heap.size := fun k hk => (h4.rows_in hk).2.1
  have hsz := hb5.size
  refine ⟨(hN.kept (Below.keeps hb6 (Nat.le_refl _))).kept (fun k h1 h2 => hbp.same k (fun hk => by have := hlow k hk; omega)), hR.kept (fun k hk _ => hbp.same k (fun hi => ?_)), ?_, hr, h4.below.size, fun k hk => ?_⟩
  · rcases hk with hk | hk
    · exact (h4.rows_in hi).2.2 hk
    · have := hlow k hi; omega
  · exact (h4.below.trans (hb5.mono h4.below.size)).trans ((hb6.mono (Nat.le_trans h4.below.size hsz)).trans hbp.below)
  · rcases hk with hk | hk
    · exact Nat.lt_of_lt_of_le hk h4.below.size
    · exact (own_lt h4.ref hk).2
theorem getW_count (fs : List (ByteArray × List UInt8)) (zs : List Int) (a : Nat) (nm : ByteArray) (fr ct : Int) : (getW fs zs a nm fr ct).2.2 ≤ a + 1 := by
  unfold getW
  split
  · exact Nat.le_succ a
  · exact Nat.le_refl _
theorem OnwX_cell {rn : Nat} {W : World} {A : Option Addr} {l : List UInt8} (h : OwnX rn W A l) {k : Nat} (hk : k < l.length) : ∃ gx x, A = some ⟨gx, 0, none⟩ ∧ rn < gx ∧ Hid (Blk W gx 5 (cellsB l)) ∧ W.cell? ⟨gx, k, none⟩ = some (.int .u8 ((x : UInt8).toNat : Int)) ∧ W.frozen? ⟨gx, k, none⟩ = false := by
  rcases h with ⟨rfl, rfl⟩ | ⟨gx, hr, rfl, hb⟩
  · simp at hk
  · exact ⟨gx, l[k], rfl, hr, hb, (hb.cell k).trans (cellsB_get l k hk), hb.frozen k⟩
theorem OwnX_put {rn : Nat} {W : World} {gx : Nat} {l : List UInt8} (hr : rn < gx) (hb : Blk W gx 5 (cellsB l)) (k : Nat) (b : UInt8) : OwnX rn (W.setCell ⟨gx, k, none⟩ (.int .u8 (b.toNat : Int))) (some ⟨gx, 0, none⟩) (l.set k b) := by
  have h := hb.set_ k (.int .u8 (b.toNat : Int))
  rw [cellsB_set] at h
  exact .inr ⟨gx, hr, rfl, h⟩
theorem getW_len (fs : List (ByteArray × List UInt8)) (zs : List Int) (a : Nat) (nm : ByteArray) (fr ct : Int) : (getW fs zs a nm fr ct).1.length ≤ 65536 := by
  unfold getW
  split
  · exact Nat.zero_le _
  · rename_i h
    show (getV fs (codeAt zs a) nm fr.toNat ct.toNat).1.length ≤ 65536
    unfold getV
    split
    · exact Nat.zero_le _
    · split
      · exact Nat.zero_le _
      · split
        · exact Nat.zero_le _
        · show (getOut _ _ _ _).length ≤ 65536
          unfold getOut
          have hk : ∀ l : List UInt8, getK (codeAt zs a) l fr.toNat ct.toNat ≤ 65536 := fun l => by
            unfold getK
            split <;> omega
          dsimp only
          split
          · rw [List.length_set, List.length_take]
            exact Nat.le_trans (Nat.min_le_left _ _) (hk _)
          · rw [List.length_take]
            exact Nat.le_trans (Nat.min_le_left _ _) (hk _)
end Go.Proofs.Ytbldognffppeiaa
