/- Contracts: a goal that is copied, by the reference. -/
import Derived.Test.YtenigopoknajgaaDoorInvCell
import Derived.Test.YtenigopoknajgaaDoorXGoal
import Derived.Test.YtenigopoknajgaaDoorExB
namespace Go.Proofs.YtenigopoknajgaaDoor
open Go.RowKit
set_option linter.unusedVariables false
set_option maxRecDepth 100000
theorem kGoal_O3 {w : World} {S1 S2 S3 : Nat → Prop} {x : Goal} {v1 v2 v3 : Value} (h1 : kCell.R w S1 v1 x.a) (h2 : kCell.R w S2 v2 x.b) (h3 : kCell.R w S3 v3 x.c) (d1 : ∀ k, S1 k → ¬ S2 k) (d2 : ∀ k, S1 k → ¬ S3 k) (d3 : ∀ k, S2 k → ¬ S3 k) :
    kGoal.O w (fun k => S1 k ∨ S2 k ∨ S3 k) x [.int .i64 x.kind, v1, v2, v3] :=
  ⟨fun _ => False, fun k => S1 k ∨ S2 k ∨ S3 k, [.int .i64 x.kind], [v1, v2, v3], rfl, fun k h => h.elim, fun k h => h, ⟨rfl, trivial⟩,
    S1, fun k => S2 k ∨ S3 k, [v1], [v2, v3], rfl, fun k h => ⟨.inl h, fun e => e.elim (d1 k h) (d2 k h)⟩, fun k h => .inr h, ⟨v1, rfl, h1⟩,
    S2, S3, [v2], [v3], rfl, fun k h => ⟨.inl h, d3 k h⟩, fun k h => .inr h, ⟨v2, rfl, h2⟩, ⟨v3, rfl, h3⟩⟩
end Go.Proofs.YtenigopoknajgaaDoor
