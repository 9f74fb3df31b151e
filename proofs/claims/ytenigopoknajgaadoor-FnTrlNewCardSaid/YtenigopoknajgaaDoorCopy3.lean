/- Contracts: goals and bindings that are copied, by the reference. -/
import Derived.Test.YtenigopoknajgaaDoorCopy3g
import Derived.Test.YtenigopoknajgaaDoorCopy2
namespace Go.Proofs.YtenigopoknajgaaDoor
open Go.RowKit
set_option linter.unusedVariables false
set_option maxRecDepth 100000
theorem get_app {α : Type} {l m : List α} {j : Nat} {u : α} (h : l[j]? = some u) : (l ++ m)[j]? = some u := by
  rw [List.getElem?_append_left (List.getElem?_eq_some_iff.1 h).1]; exact h
theorem kSGoal_of {w : World} {S : Nat → Prop} {x : SGoal} {cs : List Value} (h : kGoal.O w S x.goal cs) : kSGoal.O w S x (cs ++ [.int .i64 x.cut]) :=
  ⟨S, fun _ => False, cs, [.int .i64 x.cut], rfl, fun k h => ⟨h, id⟩, fun k h => h.elim, h, ⟨rfl, trivial⟩⟩
theorem kBind_of {w : World} {S : Nat → Prop} {x : Bind} {v : Value} (h : kCell.R w S v x.term) : kBind.O w S x [.int .i64 x.v, v] :=
  ⟨fun _ => False, S, [.int .i64 x.v], [v], rfl, fun k h => h.elim, fun k h => h, ⟨rfl, trivial⟩, ⟨v, rfl, h⟩⟩
end Go.Proofs.YtenigopoknajgaaDoor
