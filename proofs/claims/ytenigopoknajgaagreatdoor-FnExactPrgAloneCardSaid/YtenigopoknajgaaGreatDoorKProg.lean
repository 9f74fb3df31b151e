/- The kind of a program. -/
import Derived.Test.YtenigopoknajgaaGreatDoorXCell
import Derived.Test.YtenigopoknajgaaGreatDoorXClause
import Derived.Test.YtenigopoknajgaaGreatDoorXPlace
namespace Go.Proofs.YtenigopoknajgaaGreatDoor
open Go.RowKit
set_option linter.unusedVariables false
set_option maxRecDepth 100000
def kProg : Kd Prog := Kd.iso 30 (Kd.pair (Kd.slice 27 kClause (by decide)) (Kd.slice 28 kPlace (by decide))) (fun x => (x.clauses, x.places))
theorem kProg_K {w : World} {ok : Nat → Prop} {x : Prog} {cs : List Value} (h : kProg.K w ok x cs) : ∃ v0 v1, cs = [v0, v1] ∧ kClause.V w ok v0 x.clauses ∧ kPlace.V w ok v1 x.places := by
  obtain ⟨_, _, rfl, ⟨v0, rfl, h0⟩, ⟨v1, rfl, h1⟩⟩ := h
  exact ⟨v0, v1, rfl, h0, h1⟩
end Go.Proofs.YtenigopoknajgaaGreatDoor
