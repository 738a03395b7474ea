/- A laid array of arrays of bytes: its cells. -/
import Derived.Lib.LaidTab
import Derived.OpenShut
namespace Go.Proofs.YtmaknbcfnigbmaaDoor
open Go.Lib
theorem tab2_of_head {P : Program} {W : World} {name : String} {rows : List (List Int)} {rest : List (String × DataW Unit)} {g : Nat} {t t2 e : TypeId} {n m : Nat}
    (hg : P.globalNamed name = some g) (hty : (P.globals[g]?).map (·.type) = some t) (ht : P.underlying t = some (.array n t2)) (ht2 : P.underlying t2 = some (.array m e)) (he : P.underlying e = some (.int .u8)) (hce : P.cellsOf e = 1) (hct2 : P.cellsOf t2 = m)
    (hn : rows.length = n)
    (h : laidMet P ((name, .agg (rows.map (tabData .u8))) :: rest) W) : ∀ (i j : Nat) (row : List Int) (z : Int), rows[i]? = some row → row[j]? = some z → j < m → W.cell? ⟨g, i * m + j, none⟩ = some (.int .u8 z) := by
  obtain ⟨ps, ⟨g', t', cs, fuel, p, q, hg', ht', hvar, hd, _, _⟩, _⟩ := h
  obtain rfl := Option.some.inj (hg.symm.trans hg')
  obtain rfl := Option.some.inj (hty.symm.trans ht')
  obtain ⟨xs, n', _, hx, hcl, hxl, hgx⟩ := DataW.trod_array ht hd
  intro i j row z hrow hz hj
  injection hx with hx1 hx2
  injection hx1 with hx1
  have hin : i < n := by
    have := (List.getElem?_eq_some_iff.1 hrow).1
    omega
  have hxi : (xs.map (·.1))[i]? = some (tabData .u8 row) := by
    rw [← hx1, List.getElem?_map, hrow]; rfl
  rw [List.getElem?_map, Option.map_eq_some_iff] at hxi
  obtain ⟨y, hy, hy1⟩ := hxi
  have h1 := hgx i hin
  rw [hy, hct2] at h1
  obtain ⟨y1, y2⟩ := y
  subst hy1
  have h2 := cells_of_tab ht2 he hce hct2 h1
  have h3 := World.var?_cell hg hvar (i * m + j)
  rw [h3]
  have h4 : ((cs.toList.drop (i * m)).take m)[j]? = some (.int .u8 z) := by rw [h2]; simp [hz]
  rw [List.getElem?_take, if_pos hj, List.getElem?_drop] at h4
  simpa using h4
end Go.Proofs.YtmaknbcfnigbmaaDoor
