/- Contracts: goals and bindings that are copied, by the reference. -/
import Derived.Test.YtenigopoknajgaaDoorInvCell
import Derived.Test.YtenigopoknajgaaDoorCopy2
namespace Go.Proofs.YtenigopoknajgaaDoor
open Go.RowKit
set_option linter.unusedVariables false
set_option maxRecDepth 100000
theorem kGoal_O3 {w : World} {S1 S2 S3 : Nat → Prop} {x : Goal} {v1 v2 v3 : Value} (h1 : kCell.R w S1 v1 x.a) (h2 : kCell.R w S2 v2 x.b) (h3 : kCell.R w S3 v3 x.c) (d1 : ∀ k, S1 k → ¬ S2 k) (d2 : ∀ k, S1 k → ¬ S3 k) (d3 : ∀ k, S2 k → ¬ S3 k) :
    kGoal.O w (fun k => S1 k ∨ S2 k ∨ S3 k) x [.int .i64 x.kind, v1, v2, v3] :=
  ⟨fun _ => False, fun k => S1 k ∨ S2 k ∨ S3 k, [.int .i64 x.kind], [v1, v2, v3], rfl, fun k h => h.elim, fun k h => h, ⟨rfl, trivial⟩,
    S1, fun k => S2 k ∨ S3 k, [v1], [v2, v3], rfl, fun k h => ⟨.inl h, fun e => e.elim (d1 k h) (d2 k h)⟩, fun k h => .inr h, ⟨v1, rfl, h1⟩,
    S2, S3, [v2], [v3], rfl, fun k h => ⟨.inl h, d3 k h⟩, fun k h => .inr h, ⟨v2, rfl, h2⟩, ⟨v3, rfl, h3⟩⟩
theorem get_app {α : Type} {l m : List α} {j : Nat} {u : α} (h : l[j]? = some u) : (l ++ m)[j]? = some u := by
  rw [List.getElem?_append_left (List.getElem?_eq_some_iff.1 h).1]; exact h
theorem kSGoal_of {w : World} {S : Nat → Prop} {x : SGoal} {cs : List Value} (h : kGoal.O w S x.goal cs) : kSGoal.O w S x (cs ++ [.int .i64 x.cut]) :=
  ⟨S, fun _ => False, cs, [.int .i64 x.cut], rfl, fun k h => ⟨h, id⟩, fun k h => h.elim, h, ⟨rfl, trivial⟩⟩
theorem kBind_of {w : World} {S : Nat → Prop} {x : Bind} {v : Value} (h : kCell.R w S v x.term) : kBind.O w S x [.int .i64 x.v, v] :=
  ⟨fun _ => False, S, [.int .i64 x.v], [v], rfl, fun k h => h.elim, fun k h => h, ⟨rfl, trivial⟩, ⟨v, rfl, h⟩⟩
end Go.Proofs.YtenigopoknajgaaDoor
