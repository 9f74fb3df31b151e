/- Contracts: the reference's TrmCanon. -/
import Derived.Test.YtenigopoknajgaaGreatDoorF2
namespace Go.Proofs.YtenigopoknajgaaGreatDoor
open Go.RowKit
set_option linter.unusedVariables false
set_option maxRecDepth 100000
theorem place_at (l : List Int) (n : Int) (k : Nat) (h : k < l.length) (h0 : ¬ n ∈ l.take k) (h1 : l[k] = n) : place l n = k := by
  unfold place
  have hm : n ∈ l := by rw [← h1]; exact List.getElem_mem h
  rw [if_pos hm]
  have e : l = l.take k ++ n :: l.drop (k + 1) := by rw [← h1, ← List.drop_eq_getElem_cons h, List.take_append_drop]
  rw [e, List.idxOf_append, if_neg h0, List.idxOf_cons_self, List.length_take]
  omega
theorem place_not (l : List Int) (n : Int) (h : ¬ n ∈ l) : place l n = -1 := if_neg h
theorem place_in (l : List Int) (n : Int) : (0 ≤ place l n) ↔ n ∈ l := by
  unfold place
  by_cases h : n ∈ l
  · rw [if_pos h]; simp [h]
  · rw [if_neg h]; simp [h]
end Go.Proofs.YtenigopoknajgaaGreatDoor
