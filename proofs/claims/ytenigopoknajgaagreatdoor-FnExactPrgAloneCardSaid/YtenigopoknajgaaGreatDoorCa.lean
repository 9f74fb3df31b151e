/- Contracts: the laws' own comparisons. -/
import Derived.Test.YtenigopoknajgaaGreatDoorXByte
import Derived.Test.YtenigopoknajgaaGreatDoorI2
namespace Go.Proofs.YtenigopoknajgaaGreatDoor
open Go.RowKit
set_option linter.unusedVariables false
set_option maxRecDepth 100000
theorem cell_cases (x y : Cell) : (x = y ∧ (x.kind == y.kind) = true ∧ (x.n == y.n) = true ∧ (x.name.toList == y.name.toList) = true) ∨ (¬ x = y ∧ ((x.kind == y.kind) = false ∨ ((x.kind == y.kind) = true ∧ (x.n == y.n) = false) ∨ ((x.kind == y.kind) = true ∧ (x.n == y.n) = true ∧ (x.name.toList == y.name.toList) = false))) := by
  by_cases h1 : x.kind = y.kind
  · by_cases h2 : x.n = y.n
    · by_cases h3 : x.name = y.name
      · exact .inl ⟨(Cell.ext_iff x y).2 ⟨h1, h2, h3⟩, beq_iff_eq.2 h1, beq_iff_eq.2 h2, beq_iff_eq.2 (by rw [h3])⟩
      · exact .inr ⟨fun e => h3 (by rw [e]), .inr (.inr ⟨beq_iff_eq.2 h1, beq_iff_eq.2 h2, beq_eq_false_iff_ne.2 (fun h => h3 (toList_inj.1 h))⟩)⟩
    · exact .inr ⟨fun e => h2 (by rw [e]), .inr (.inl ⟨beq_iff_eq.2 h1, beq_eq_false_iff_ne.2 h2⟩)⟩
  · exact .inr ⟨fun e => h1 (by rw [e]), .inl (beq_eq_false_iff_ne.2 h1)⟩
end Go.Proofs.YtenigopoknajgaaGreatDoor
