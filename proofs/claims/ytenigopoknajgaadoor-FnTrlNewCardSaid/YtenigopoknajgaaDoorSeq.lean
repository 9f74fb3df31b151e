/- The rule of Inv.lean for a stretch of operations that keeps its order; a row of one struct. No program in sight. -/
import Derived.Test.YtenigopoknajgaaDoorInv
namespace Go.Proofs.YtenigopoknajgaaDoor
open Go.RowKit
set_option linter.unusedVariables false
theorem any_seq {P : Program} {ops : Array Oper} {Q : Exit → Act → World → Prop} (hb : (List.range ops.size).all (fun i => ((ops[i]?).map (fun o => (depsOf o).all (· < i))).getD true) = true) :
    ∀ (fuel k : Nat) (listed : Array Bool) (a : Act) (w : World), listed.size = ops.size → (∀ i, i < k → listed.getD i true = true) → (∀ i, k ≤ i → i < ops.size → listed.getD i true = false) → k + fuel = ops.size →
      wpAny P .any ops Q fuel listed a w → wpOps P ops Q (List.range' k fuel) a w := by
  intro fuel
  induction fuel with
  | zero => intro k listed a w hs h1 h2 hk h; simpa [wpOps] using h.2
  | succ fuel ih =>
    intro k listed a w hs h1 h2 hk h
    rw [List.range'_succ, wpOps_cons]
    have hi : k < ops.size := by omega
    have hr : k ∈ Region.ready .any ops listed := mem_ready.2 ⟨h2 k (Nat.le_refl _) hi, ops[k], Array.getElem?_eq_getElem hi, fun e he hbd => by
      have hb' := all_range hb hi
      simp only [Array.getElem?_eq_getElem hi, Option.map_some, Option.getD_some] at hb'
      have hlt : e.on < k := by
        have := List.all_eq_true.1 hb' e.on (List.mem_map.2 ⟨e, List.mem_filter.2 ⟨by simpa using he, hbd⟩, rfl⟩)
        simpa using this
      have := h1 e.on hlt
      have hsz : e.on < listed.size := by omega
      simpa [hsz] using this⟩
    refine wpOp_mono (fun a w h => ih (k + 1) _ a w (by simpa using hs) ?_ ?_ (by omega) h) (h.2 k hr)
    · intro i hi'
      rcases Nat.lt_or_ge i k with h' | h'
      · have := h1 i h'
        rw [Array.getD_eq_getD_getElem?, Array.getElem?_setIfInBounds]
        rw [Array.getD_eq_getD_getElem?] at this
        split
        · omega
        · exact this
      · obtain rfl : i = k := by omega
        simp [hs, hi]
    · intro i h' hi'
      have := h2 i (by omega) hi'
      rw [Array.getD_eq_getD_getElem?, Array.getElem?_setIfInBounds, if_neg (by omega)]
      rwa [Array.getD_eq_getD_getElem?] at this
theorem gd_false {n i : Nat} (h : i < n) : (Array.replicate n false).getD i true = false := by simp [h]
/-- A stretch that keeps its order: the rule in lists. -/
theorem wpList_lists {P : Program} {Q : Exit → Act → World → Prop} {l : List Oper} {a : Act} {w : World} (sls : List (List Nat)) (ons : List On) (eats : List (List Nat)) (N : Nat) (T : Nat → Prop) (own : Nat → Nat → Prop)
    (hc : FitB l.toArray (fun i => (sls[i]?).getD []) (eatOf eats) N a.tmps.size) (hst : AllStab w.heap.size T sls ons)
    (hap : ∀ i j k, own i k → own j k → i = j) (hmi : ∀ i k, own i k → l.length ≤ i ∧ T k ∧ k < w.heap.size) (hh : ∀ i, l.length ≤ i → i < l.length + N → (assOf sls ons i).on (slotsOf a) (own i) w)
    (hstep : AllStep (StepOk P l.toArray Q (assOf sls ons) (eatOf eats) N T w a) 0 l)
    (hend : ∀ a' w' own, Fin_ l.toArray sls ons eats N T w a a' w' own → Q .normal a' w') : wpList P l.toArray Q l a w := by
  have hst' : ∀ i, i < l.toArray.size + N → (assOf sls ons i).Stab w.heap.size T := fun i _ => hst.at i
  have h : wpAny P .any l.toArray Q l.length (Array.replicate l.toArray.size false) a w := by
    refine inv_any (w0 := w) (a0 := a) (A := assOf sls ons) (eat := eatOf eats) (N := N) (T := T) hc hst' (fun i o ho => by have := hstep.at i o (by simpa using ho); rwa [Nat.zero_add] at this) (fun a' w' own h => hend a' w' own ⟨h⟩) l.length _ a w own (by simp) ?_ ?_
    · exact Nat.le_trans List.countP_le_length (by simp)
    · have hL : ∀ i, i < l.toArray.size → (Array.replicate l.toArray.size false).getD i true = false := fun i hi => gd_false (by simpa using hi)
      refine ⟨rfl, fun _ _ => rfl, rfl, Foot.refl _ _, hap, fun i k h => ⟨.inr (hmi i k h).2.1, (hmi i k h).2.2⟩, fun i hiN hi _ => ?_, fun i o ho hi => ?_⟩
      · rcases Nat.lt_or_ge i l.toArray.size with h | h
        · rw [hL i h] at hi; cases hi
        · exact hh i (by simpa using h) (by simpa using hiN)
      · rw [hL i (Array.getElem?_eq_some_iff.1 ho).1] at hi; cases hi
  have h2 := any_seq hc.back l.length 0 _ a w (by simp) (fun i hi => absurd hi (Nat.not_lt_zero _)) (fun i _ hi => gd_false (by simpa using hi)) (by simp) h
  rwa [← wpOps_eq_wpList l 0 (by simp)]
/-- A row that has one struct, in a block of its own. -/
theorem Kd.R_of_one {α : Type} (d : Kd α) {w : World} {S : Nat → Prop} {g : Nat} {cs : List Value} {x : α} (hb : w.heap[g]? = some (.cells cs.toArray d.ty (0, 0))) (hS : S g) (h : d.O w (fun k => S k ∧ k ≠ g) x cs) : d.R w S (.slice (some ⟨g, 0, none⟩) 1 1) [x] := by
  have hl := d.K_len (d.O_K h)
  refine ⟨by simp, .inr ⟨g, 1, cs.toArray, rfl, hb, hS, Nat.le_refl _, by decide, by simp [hl], ?_⟩⟩
  exact ⟨fun k => S k ∧ k ≠ g, fun _ => False, cs, [], by simp [← hl], fun k h => ⟨h, id⟩, fun k h => h.elim, h, rfl⟩
end Go.Proofs.YtenigopoknajgaaDoor
