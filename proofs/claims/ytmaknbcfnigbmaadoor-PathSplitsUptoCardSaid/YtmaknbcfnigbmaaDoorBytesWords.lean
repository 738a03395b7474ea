/- Words for bytes: from a reading to the printed contracts' reading, and to the text that is made of them. -/
import Derived.Test.YtmaknbcfnigbmaaDoorSigWords
import Derived.Test.YtmaknbcfnigbmaaDoorWWords
import Derived.Laws.BytesArg
import Derived.Lib.UnsafeStr
namespace Go.Proofs.YtmaknbcfnigbmaaDoor
open Go.RowKit Go.Proofs.YtmaknbcfnigbmaaDoorW.PrintWords

def intsB (l : List UInt8) : List Int := l.map fun b => (b.toNat : Int)
theorem intsB_length (l : List UInt8) : (intsB l).length = l.length := by simp [intsB]
theorem strOf_intsB (l : List UInt8) : strOfNums (intsB l) = ⟨l.toArray⟩ := by
  unfold strOfNums intsB
  rw [List.map_map]
  congr 2
  conv => rhs; rw [← List.map_id l]
  apply List.map_congr_left
  intro b _
  simp
theorem numsB (l : List UInt8) : nums .u8 (intsB l) = Lib.byteCells l := by simp [nums, intsB, Lib.byteCells]
theorem reads_of_B {w : World} {A : Option Addr} {l : List UInt8} (h : ReadsB w A l) (hl : l.length ≤ 9223372036854775807) : ReadsInt w .u8 A l.length (intsB l) := by
  refine ⟨intsB_length l, hl, fun hn => ?_⟩
  obtain ⟨ad, e, hc⟩ := h hn
  refine ⟨ad, e, fun j hj => ?_⟩
  have := hc j _ (List.getElem?_eq_getElem hj)
  rw [this]
  simp [intsB, hj]
theorem C_of_B {w : World} {A : Option Addr} {l : List UInt8} (h : ReadsB w A l) (hl : l.length ≤ 9223372036854775807) : (Kd.int .u8).C w A l.length (intsB l) := Kd.C_of_reads (d := (0 : Int)) (reads_of_B h hl)
/-- The text of bytes that are read. -/
theorem text_of_B {P : Program} {w : World} {src dst e : TypeId} {A : Option Addr} {c : Nat} {l : List UInt8} (hs : P.underlying src = some (.slice e)) (he : P.underlying e = some (.int .u8)) (hd : P.underlying dst = some .string)
    (h : ReadsB w A l) (hl : l.length ≤ 9223372036854775807) : (convert src dst (.slice A l.length c)).run P w = .ok (.string ⟨l.toArray⟩) w := by
  have := string_of_reads (c := c) hs he hd (reads_of_B h hl)
  rw [strOf_intsB] at this
  exact this
/-- The text of an own row. -/
theorem text_of_own {P : Program} {w : World} {base : Nat} {e' src dst e : TypeId} {v : Value} {l : List UInt8} (hs : P.underlying src = some (.slice e)) (he : P.underlying e = some (.int .u8)) (hd : P.underlying dst = some .string)
    (h : w.ownsRow base e' 1 v l.length (Lib.byteCells l)) : (convert src dst v).run P w = .ok (.string ⟨l.toArray⟩) w := by
  rw [← numsB l] at h
  have := own_string hs he hd h
  rw [strOf_intsB] at this
  exact this
/-- An own row reads as its bytes. -/
theorem own_readsB {w : World} {base : Nat} {e' : TypeId} {v : Value} {l : List UInt8} (h : w.ownsRow base e' 1 v l.length (Lib.byteCells l)) : ∃ A c, v = .slice A l.length c ∧ l.length ≤ c ∧ ReadsB w A l := by
  have hR : ∀ {A : Option Addr} {c : Nat}, v = .slice A l.length c → ReadsB w A l := by
    intro A c hv
    subst hv
    rw [← numsB l] at h
    have hr := own_reads' h
    intro hn
    obtain ⟨ad, e, hc⟩ := hr.2.2 hn
    refine ⟨ad, e, fun j b hj => ?_⟩
    obtain ⟨hlt, he⟩ := List.getElem?_eq_some_iff.1 hj
    rw [hc j hlt]
    subst he
    simp [intsB, hlt]
  rcases h.2 with ⟨h1, h2⟩ | ⟨g, cap, cur, h1, _, _, hcap, _⟩
  · exact ⟨none, 0, by rw [h1, h2], by omega, hR (by rw [h1, h2])⟩
  · exact ⟨_, cap, h1, hcap, hR h1⟩
end Go.Proofs.YtmaknbcfnigbmaaDoor
