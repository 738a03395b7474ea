/- A network in memory, and what one question to it says. -/
import Derived.Test.YtbldognffppeiaaWalkNobody
import Derived.Test.YtbldognffppeiaaSigWords
import Derived.Maps.OwnSet
namespace Go.Proofs.Ytbldognffppeiaa
open Go.RowKit Go.Maps
set_option linter.unusedSimpArgs false
set_option linter.unusedVariables false
/-- How a file reads in the map: as itself. -/
def asIs (v : Value) : Option (DataW Value × List MemPlace) := some (.held v, [])
/-- The network's own block. -/
def NetB (W : World) (gn gm : Nat) (F : Value) (a : Nat) : Prop := W.heap[gn]? = some (.cells #[.map (some gm), F, .int .i64 (a : Int)] 28 (0, 0))
/-- The faults, wherever they lie. -/
def FaultsAt (W : World) (B : Option Addr) (zs : List Int) : Prop := ∀ j z, zs[j]? = some z → ∃ ad, B = some ad ∧ W.cell? (ad.add j) = some (.int .i64 z)
/-- The fault of the question at hand. -/
def codeAt (zs : List Int) (a : Nat) : Int := zs.getD a 0
/-- What a question answers. -/
def askV (code : Int) (ok : Bool) (v : Value) : Value :=
  if code = 1 then .tuple #[.int .i64 code, .slice none 0 0, .int .i64 45]
  else if code = 4 ∨ ok = false then .tuple #[.int .i64 code, .slice none 0 0, .int .i64 14]
  else .tuple #[.int .i64 code, v, .int .i64 0]
/-- The turn that a question leaves. -/
def AskedBy (W : World) (gn gm : Nat) (F : Value) (a' : Nat) (W' : World) : Prop := W.grownBy W' (some gn) ∧ NetB W' gn gm F a'
set_option maxHeartbeats 2000000 in
theorem some_call (w : World) (gn gm : Nat) (F : Value) (a : Nat) (h : NetB w gn gm F a) : Calls Try.prog 15 #[.pointer (some ⟨gn, 0, none⟩)] w fun e w' => e = .returned (.bool false) ∧ w = w' := by
  have hc : w.cell? ⟨gn, 0, none⟩ = some (.map (some gm)) := by rw [cell_at h]; rfl
  clear h
  have hq : ∀ W, (Op.equalIn 10000 25 (.map (some gm)) (.map none)).run Try.prog W = .ok false W := fun W => run_equalIn_map_nil W 9999 25 _ _ (some gm) Try.underlying25
  have hq2 : ∀ W, (binOp .eql 25 (.map (some gm)) (.map none)).run Try.prog W = .ok (.bool false) W := fun W => by
    simp only [binOp]
    simp [Op.equal, Op.maxDepth, hq]
  clear hq
  go_enter Try.func15, Try.ntmps15
  go_wp2_with fail
  go_ret
  exact ⟨rfl, rfl⟩
end Go.Proofs.Ytbldognffppeiaa
