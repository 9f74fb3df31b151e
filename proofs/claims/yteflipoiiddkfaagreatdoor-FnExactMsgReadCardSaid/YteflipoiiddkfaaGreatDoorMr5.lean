/- Regions that draw their order: what each operation leaves is said once, and holds whatever the order. No program in sight; and what goes with it. -/
import Derived.Test.YteflipoiiddkfaaGreatDoorMr2
import Derived.Test.YteflipoiiddkfaaGreatDoorMr3
import Derived.Test.YteflipoiiddkfaaGreatDoorMr4
import Derived.OrdersHeld
import Derived.Deep.MidRow
import Derived.Great.BuildSlice
import Derived.Laws.Tables
import Derived.Deep.RegionHeld3
namespace Go.Proofs.YteflipoiiddkfaaGreatDoor
section
open Go.RowKit
set_option linter.unusedVariables false
/-- What an operation leaves: said of the slots, of the blocks that are its own, and of the world. -/
structure Ass where
  sl : List Nat
  on : (Nat → Value) → (Nat → Prop) → World → Prop
/-- It stands where the named slots, its own blocks and the old blocks stand. -/
def Ass.Stab (A : Ass) (n0 : Nat) (T : Nat → Prop) : Prop := ∀ (val val' : Nat → Value) (S : Nat → Prop) (w w' : World), A.on val S w → (∀ t ∈ A.sl, val' t = val t) →
  (∀ k, S k ∨ (k < n0 ∧ ¬ T k) → k < w.heap.size → w'.heap[k]? = w.heap[k]?) → w.heap.size ≤ w'.heap.size → A.on val' S w'
def slotsOf (a : Act) (t : Nat) : Value := a.eval (.tmp t)
def depsOf (o : Oper) : List Nat := (o.after.toList.filter (Region.binds .any ·)).map (·.on)
/-- The region's own order fits the assertions: closed facts. -/
structure FitB (ops : Array Oper) (sl : Nat → List Nat) (eat : Nat → List Nat) (N m : Nat) : Prop where
  guard : ((true : Bool)) = true
  back : (List.range ops.size).all (fun i => ((ops[i]?).map (fun o => (depsOf o).all (· < i))).getD true) = true
  slot : (List.range (ops.size + N)).all (fun i => (sl i).all (fun t => (List.range ops.size).all (fun j => ((ops[j]?).map (fun o => !(o.dst == some t) || j == i || ((ops[i]?).map (fun p => (depsOf p).contains j)).getD false)).getD true))) = true
  dst : (List.range ops.size).all (fun i => ((ops[i]?).map (fun o => (o.dst.map (fun d => decide (d < m))).getD true)).getD true) = true
  eat : (List.range ops.size).all (fun i => (eat i).all (fun j => (List.range ops.size).all (fun i' => i' == i || !(eat i').contains j))) = true
/-- What op i may look at: what it waits for, and what there was, where nobody else eats it. -/
def usable (ops : Array Oper) (eat : Nat → List Nat) (N : Nat) (i j : Nat) : Bool :=
  (((ops[i]?).map (fun o => (depsOf o).contains j)).getD false || (decide (ops.size ≤ j) && decide (j < ops.size + N))) && (List.range ops.size).all (fun i' => i' == i || !(eat i').contains j || ((ops[i']?).map (fun o => (depsOf o).contains i)).getD false)
def foreign (ops : Array Oper) (t : Nat) : Bool := (List.range ops.size).all (fun j => ((ops[j]?).map (fun o => !(o.dst == some t))).getD true)
/-- No operation that may have come up ahead of op i writes slot t. -/
def keptAt (ops : Array Oper) (i t : Nat) : Bool := (List.range ops.size).all (fun j => ((ops[j]?).map (fun o => !(o.dst == some t) || (depsOf o).contains i)).getD true)
structure St (ops : Array Oper) (A : Nat → Ass) (eat : Nat → List Nat) (N : Nat) (T : Nat → Prop) (w0 : World) (a0 : Act) (L : Nat → Bool) (a : Act) (w : World) (own : Nat → Nat → Prop) : Prop where
  size : a.tmps.size = a0.tmps.size
  keep : ∀ t, (∀ j o, ops[j]? = some o → o.dst = some t → L j = false) → slotsOf a t = slotsOf a0 t
  rest : a.defers = a0.defers
  foot : Foot T w0 w
  apart : ∀ i j k, own i k → own j k → i = j
  mine : ∀ i k, own i k → (w0.heap.size ≤ k ∨ T k) ∧ k < w.heap.size
  holds : ∀ i, i < ops.size + N → L i = true → (∀ j, j < ops.size → i ∈ eat j → L j = false) → (A i).on (slotsOf a) (own i) w
  closed : ∀ i o, ops[i]? = some o → L i = true → ∀ j ∈ depsOf o, L j = true
theorem all_range {n : Nat} {p : Nat → Bool} (h : (List.range n).all p = true) {i : Nat} (hi : i < n) : p i = true := List.all_eq_true.1 h i (List.mem_range.2 hi)
theorem slots_put {a : Act} {d : Option Tmp} {v : Value} (hd : ∀ x, d = some x → x < a.tmps.size) (t : Nat) : slotsOf (a.put d v) t = if d = some t then v else slotsOf a t := by
  cases d with
  | none => simp [Act.put, slotsOf]
  | some x =>
    have hx := hd x rfl
    simp only [Act.put, slotsOf, Act.eval, Option.some.injEq]
    by_cases h : x = t
    · subst h; simp [hx]
    · rw [if_neg h]; simp [Array.getElem?_setIfInBounds_ne h]
theorem countP_lt {α : Type} {p q : α → Bool} : ∀ (l : List α), (∀ x ∈ l, q x = true → p x = true) → ∀ x ∈ l, p x = true → q x = false → l.countP q < l.countP p
  | [], _, x, hx, _, _ => by cases hx
  | y :: l, h, x, hx, h1, h2 => by
    have hle : l.countP q ≤ l.countP p := List.countP_mono_left (fun z hz => h z (List.mem_cons_of_mem _ hz))
    rw [List.countP_cons, List.countP_cons]
    rcases List.mem_cons.1 hx with rfl | hx
    · rw [if_pos h1, if_neg (by simp [h2])]; omega
    · have := countP_lt l (fun z hz => h z (List.mem_cons_of_mem _ hz)) x hx h1 h2
      have h3 := h y List.mem_cons_self
      by_cases hq : q y = true
      · rw [if_pos hq, if_pos (h3 hq)]; omega
      · rw [if_neg hq]; split <;> omega
section
variable {P : Program} {ops : Array Oper} {Q : Exit → Act → World → Prop} {A : Nat → Ass} {eat : Nat → List Nat} {N : Nat} {T : Nat → Prop} {w0 : World} {a0 : Act}
/-- What op i, come up in this state, must leave. -/
def Post (A : Nat → Ass) (eat : Nat → List Nat) (own : Nat → Nat → Prop) (i : Nat) (o : Oper) (a : Act) (w : World) (v : Value) (w' : World) : Prop :=
  ∃ S : Nat → Prop, Foot (fun k => ∃ j ∈ eat i, own j k) w w' ∧ (A i).on (fun t => if o.dst = some t then v else slotsOf a t) S w' ∧ (∀ k, S k → (∃ j ∈ eat i, own j k) ∨ (w.heap.size ≤ k ∧ k < w'.heap.size))
def StepOk (P : Program) (ops : Array Oper) (Q : Exit → Act → World → Prop) (A : Nat → Ass) (eat : Nat → List Nat) (N : Nat) (T : Nat → Prop) (w0 : World) (a0 : Act) (i : Nat) (o : Oper) : Prop :=
  ∀ (a : Act) (w : World) (own : Nat → Nat → Prop), (∀ t, keptAt ops i t = true → slotsOf a t = slotsOf a0 t) → (∀ j, usable ops eat N i j = true → (A j).on (slotsOf a) (own j) w) →
    (∀ i j k, own i k → own j k → i = j) → (∀ i k, own i k → (w0.heap.size ≤ k ∨ T k) ∧ k < w.heap.size) → Foot T w0 w →
    ∀ K : Act → World → Prop, (∀ v w', Post A eat own i o a w v w' → K (a.put o.dst v) w') → if Region.wanted o (yielded ops a.tmps) = true then Oper.wp P o a w K Q else K (a.put o.dst undef) w
theorem all_listed {listed : Array Bool} (hs : listed.size = ops.size) (hb : (List.range ops.size).all (fun i => ((ops[i]?).map (fun o => (depsOf o).all (· < i))).getD true) = true) (h : Region.ready .any ops listed = []) : ∀ i, listed.getD i true = true := by
  intro i
  induction i using Nat.strongRecOn with
  | _ i ih =>
    rcases Nat.lt_or_ge i ops.size with hi | hi
    · by_cases hl : listed.getD i true = true
      · exact hl
      · exfalso
        have hb' := all_range hb hi
        have : i ∈ Region.ready .any ops listed := mem_ready.2 ⟨by simpa using hl, ops[i], Array.getElem?_eq_getElem hi, fun e he hbd => by
          simp only [Array.getElem?_eq_getElem hi, Option.map_some, Option.getD_some] at hb'
          have hlt : e.on < i := by
            have := List.all_eq_true.1 hb' e.on (List.mem_map.2 ⟨e, List.mem_filter.2 ⟨by simpa using he, hbd⟩, rfl⟩)
            simpa using this
          have := ih e.on hlt
          have hsz : e.on < listed.size := by omega
          simpa [hsz] using this⟩
        rw [h] at this; cases this
    · simp [Array.getElem?_eq_none (show listed.size ≤ i by omega)]
theorem inv_any (hc : FitB ops (fun i => (A i).sl) eat N a0.tmps.size) (hst : ∀ i, i < ops.size + N → (A i).Stab w0.heap.size T) (hstep : ∀ i o, ops[i]? = some o → StepOk P ops Q A eat N T w0 a0 i o)
    (hend : ∀ a w own, St ops A eat N T w0 a0 (fun _ => true) a w own → Q .normal a w) :
    ∀ (fuel : Nat) (listed : Array Bool) (a : Act) (w : World) (own : Nat → Nat → Prop), listed.size = ops.size → (List.range ops.size).countP (fun i => !listed.getD i true) ≤ fuel →
      St ops A eat N T w0 a0 (fun i => listed.getD i true) a w own → wpAny P .any ops Q fuel listed a w := by
  intro fuel
  induction fuel with
  | zero =>
    intro listed a w own hs hn hI
    have hall : ∀ i, listed.getD i true = true := fun i => by
      rcases Nat.lt_or_ge i ops.size with hi | hi
      · have h0 : (List.range ops.size).countP (fun i => !listed.getD i true) = 0 := by omega
        have := List.countP_eq_zero.1 h0 i (List.mem_range.2 hi)
        simpa using this
      · simp [Array.getElem?_eq_none (show listed.size ≤ i by omega)]
    refine ⟨?_, hend a w own (by have e : (fun i => listed.getD i true) = fun _ => true := funext hall; rw [← e]; exact hI)⟩
    cases hr : Region.ready .any ops listed with
    | nil => rfl
    | cons x l =>
      have : x ∈ Region.ready .any ops listed := by rw [hr]; exact List.mem_cons_self
      have := (mem_ready.1 this).1
      rw [hall x] at this; cases this
  | succ fuel ih =>
    intro listed a w own hs hn hI
    refine ⟨fun h0 => hend a w own ?_, fun i hi => ?_⟩
    · have e : (fun i => listed.getD i true) = fun _ => true := funext (all_listed hs hc.back h0)
      rw [← e]; exact hI
    · obtain ⟨hun, o, ho, hdep⟩ := mem_ready.1 hi
      have hil : i < ops.size := (Array.getElem?_eq_some_iff.1 ho).1
      have hdep' : ∀ j ∈ depsOf o, listed.getD j true = true := fun j hj => by
        obtain ⟨e, he, rfl⟩ := List.mem_map.1 hj
        obtain ⟨he1, he2⟩ := List.mem_filter.1 he
        have h1 := hdep e (by simpa using he1) he2
        rcases Nat.lt_or_ge e.on listed.size with h' | h'
        · simpa [h'] using h1
        · simp [Array.getElem?_eq_none h'] at h1
      have hdst : ∀ x, o.dst = some x → x < a.tmps.size := fun x hx => by
        have := all_range hc.dst hil
        simp [ho, hx] at this
        rw [hI.size]; exact this
      have heat : ∀ j ∈ eat i, ∀ i', i' < ops.size → j ∈ eat i' → i' = i := fun j hj i' hi' hj' => by
        have := all_range (List.all_eq_true.1 (all_range hc.eat hil) j hj) hi'
        simpa [hj'] using this
      have hrun := hstep i o ho a w own (fun t ht => hI.keep t (fun j p hp hd => by
        cases hL : listed.getD j true with
        | false => rfl
        | true =>
          have h1 := all_range ht (Array.getElem?_eq_some_iff.1 hp).1
          simp [hp, hd] at h1
          have := hI.closed j p hp hL i h1
          rw [hun] at this; cases this)) (fun j hj => by
        unfold usable at hj
        rw [Bool.and_eq_true, Bool.or_eq_true] at hj
        obtain ⟨h1, h2⟩ := hj
        have hLj : listed.getD j true = true ∧ j < ops.size + N := by
          rcases h1 with h1 | h1
          · simp [ho] at h1
            refine ⟨hdep' j h1, ?_⟩
            have hb' := all_range hc.back hil
            simp only [ho, Option.map_some, Option.getD_some] at hb'
            have := List.all_eq_true.1 hb' j h1
            simp at this
            omega
          · rw [Bool.and_eq_true] at h1
            obtain ⟨h1, h3⟩ := h1
            simp at h1 h3
            exact ⟨by simp [Array.getElem?_eq_none (show listed.size ≤ j by omega)], h3⟩
        refine hI.holds j hLj.2 hLj.1 (fun i' hi' hj' => ?_)
        have h5 := all_range h2 hi'
        by_cases e : i' = i
        · subst e; exact hun
        · cases hL : listed.getD i' true with
          | false => rfl
          | true =>
            simp [hj', e] at h5
            cases hp : ops[i']? with
            | none => simp [hp] at h5
            | some p =>
              simp [hp] at h5
              have := hI.closed i' p hp hL i h5
              rw [hun] at this; cases this) hI.apart hI.mine hI.foot
      unfold wpOp
      rw [ho]
      simp only
      have hrun2 := hrun (wpAny P .any ops Q fuel (listed.setIfInBounds i true)) (fun v w' hP => by
        obtain ⟨S, hF, hA, hS⟩ := hP
        have hU : ∀ k, (∃ j ∈ eat i, own j k) → (w0.heap.size ≤ k ∨ T k) := fun k ⟨j, _, hj⟩ => (hI.mine j k hj).1
        have hput : ∀ t, slotsOf (a.put o.dst v) t = if o.dst = some t then v else slotsOf a t := slots_put hdst
        refine ih (listed.setIfInBounds i true) (a.put o.dst v) w' (fun j k => if j = i then S k else own j k ∧ ¬ j ∈ eat i) (by simpa using hs) ?_ ?_
        · have := countP_lt (p := fun i => !listed.getD i true) (q := fun j => !(listed.setIfInBounds i true).getD j true) (List.range ops.size) (fun x hx hq => ?_) i (List.mem_range.2 hil) (by rw [hun]; rfl) (by simp [show i < listed.size by omega])
          · omega
          · by_cases hx' : i = x
            · subst hx'; simp [show i < listed.size by omega] at hq
            · rwa [getD_set_ne true hx'] at hq
        · refine ⟨?_, ?_, ?_, ?_, ?_, ?_, ?_, ?_⟩
          · rw [← hI.size]; cases o.dst <;> simp [Act.put]
          · intro t ht
            have hn : ¬ o.dst = some t := fun hd => by
              have := ht i o ho hd
              simp [show i < listed.size by omega] at this
            rw [hput, if_neg hn]
            refine hI.keep t (fun j p hp hd => ?_)
            have := ht j p hp hd
            by_cases e : i = j
            · subst e; rw [ho] at hp; obtain rfl := Option.some.inj hp; exact (hn hd).elim
            · rwa [getD_set_ne true e] at this
          · rw [← hI.rest]; cases o.dst <;> rfl
          · refine hI.foot.trans hF (fun k hk he => ?_)
            rcases hU k he with h | h
            · omega
            · exact h
          · intro j1 j2 k h1 h2
            have key : ∀ j, j ≠ i → own j k → ¬ j ∈ eat i → S k → False := fun j hj ho1 he hS1 => by
              rcases hS k hS1 with ⟨j', hj', ho2⟩ | ⟨h3, _⟩
              · exact he (hI.apart j j' k ho1 ho2 ▸ hj')
              · have := (hI.mine j k ho1).2; omega
            by_cases e1 : j1 = i
            · by_cases e2 : j2 = i
              · rw [e1, e2]
              · simp only [if_pos e1] at h1
                simp only [if_neg e2] at h2
                exact (key j2 e2 h2.1 h2.2 h1).elim
            · by_cases e2 : j2 = i
              · simp only [if_pos e2] at h2
                simp only [if_neg e1] at h1
                exact (key j1 e1 h1.1 h1.2 h2).elim
              · simp only [if_neg e1] at h1
                simp only [if_neg e2] at h2
                exact hI.apart j1 j2 k h1.1 h2.1
          · intro j k h
            by_cases e : j = i
            · simp only [if_pos e] at h
              rcases hS k h with he | ⟨h1, h2⟩
              · obtain ⟨j', _, hj'⟩ := he
                have := hI.mine j' k hj'
                have := hF.size
                exact ⟨(hI.mine j' k hj').1, by omega⟩
              · have := hI.foot.size
                exact ⟨.inl (by omega), h2⟩
            · simp only [if_neg e] at h
              have h1 := hI.mine j k h.1
              have := hF.size
              exact ⟨h1.1, by omega⟩
          · intro j hjN hj he
            by_cases e : j = i
            · subst e
              have e2 : (fun k => if j = j then S k else own j k ∧ ¬ j ∈ eat j) = S := funext fun k => if_pos rfl
              rw [e2, show slotsOf (a.put o.dst v) = fun t => if o.dst = some t then v else slotsOf a t from funext hput]
              exact hA
            · have hj0 : listed.getD j true = true := by rwa [getD_set_ne true (Ne.symm e)] at hj
              have hne : ¬ j ∈ eat i := fun h => by
                have := he i hil h
                simp [show i < listed.size by omega] at this
              have h0 := hI.holds j hjN hj0 (fun j' hj' hm => by
                by_cases e' : j' = i
                · subst e'; exact (hne hm).elim
                · have := he j' hj' hm
                  rwa [getD_set_ne true (Ne.symm e')] at this)
              have e2 : (fun k => if j = i then S k else own j k ∧ ¬ j ∈ eat i) = own j := funext fun k => by rw [if_neg e]; exact propext ⟨fun h => h.1, fun h => ⟨h, hne⟩⟩
              rw [e2]
              refine hst j hjN _ _ _ _ _ h0 (fun t ht => ?_) (fun k hk hlt => ?_) hF.size
              · rw [hput, if_neg]
                intro hd
                have := all_range (List.all_eq_true.1 (all_range hc.slot hjN) t ht) hil
                simp [ho, hd] at this
                rcases this with h | h
                · exact e h.symm
                · cases hoj : ops[j]? with
                  | none => simp [hoj] at h
                  | some p =>
                    simp [hoj] at h
                    have := hI.closed j p hoj hj0 i h
                    rw [hun] at this; cases this
              · refine hF.block k hlt (fun ⟨j', hj', ho'⟩ => ?_)
                rcases hk with hk | ⟨hk1, hk2⟩
                · exact hne (hI.apart j j' k hk ho' ▸ hj')
                · rcases (hI.mine j' k ho').1 with h | h
                  · omega
                  · exact hk2 h
          · intro j p hp hj j' hj'
            by_cases e : j = i
            · subst e
              rw [ho] at hp
              obtain rfl := Option.some.inj hp
              by_cases e' : j = j'
              · subst e'; simp [show j < listed.size by omega]
              · rw [getD_set_ne true e']; exact hdep' j' hj'
            · have hj0 : listed.getD j true = true := by rwa [getD_set_ne true (Ne.symm e)] at hj
              have := hI.closed j p hp hj0 j' hj'
              by_cases e' : i = j'
              · subst e'; simp [show i < listed.size by omega]
              · rw [getD_set_ne true e']; exact this)
      split
      · rename_i hw; rw [if_pos hw] at hrun2; exact .inl hrun2
      · rename_i hw; rw [if_neg hw] at hrun2; exact hrun2
/-- THE RULE: a region that draws its order: what is said of each operation holds behind it. -/
theorem wp_region_inv {id : Nat} {a : Act} {w : World} (A : Nat → Ass) (eat : Nat → List Nat) (N : Nat) (T : Nat → Prop) (own : Nat → Nat → Prop) (hm : P.follows .mixedOrders = true)
    (hc : FitB ops (fun i => (A i).sl) eat N a.tmps.size) (hst : ∀ i, i < ops.size + N → (A i).Stab w.heap.size T)
    (hap : ∀ i j k, own i k → own j k → i = j) (hmi : ∀ i k, own i k → ops.size ≤ i ∧ T k ∧ k < w.heap.size) (hh : ∀ i, ops.size ≤ i → i < ops.size + N → (A i).on (slotsOf a) (own i) w.drew)
    (hstep : ∀ i o, ops[i]? = some o → StepOk P ops Q A eat N T w.drew a i o)
    (hend : ∀ a' w' own, St ops A eat N T w.drew a (fun _ => true) a' w' own → Q .normal a' w') : (Code.region id ops true).wp P Q a w := by
  refine wp_region_any hm ?_
  have hsz : w.drew.heap.size = w.heap.size := rfl
  refine inv_any (w0 := w.drew) (a0 := a) hc (by rw [hsz]; exact hst) hstep hend ops.size (Array.replicate ops.size false) a w.drew own (by simp) ?_ ?_
  · exact Nat.le_trans List.countP_le_length (by simp)
  · have hL : ∀ i, i < ops.size → (Array.replicate ops.size false).getD i true = false := fun i hi => by simp [hi]
    refine ⟨rfl, fun _ _ => rfl, rfl, Foot.refl _ _, hap, fun i k h => ⟨.inr (hmi i k h).2.1, by rw [hsz]; exact (hmi i k h).2.2⟩, fun i hiN hi _ => ?_, fun i o ho hi => ?_⟩
    · rcases Nat.lt_or_ge i ops.size with h | h
      · rw [hL i h] at hi; cases hi
      · exact hh i h hiN
    · rw [hL i (Array.getElem?_eq_some_iff.1 ho).1] at hi; cases hi
/-! #### the rule in lists -/
abbrev On := (Nat → Value) → (Nat → Prop) → World → Prop
def assOf (sls : List (List Nat)) (ons : List On) (i : Nat) : Ass := ⟨(sls[i]?).getD [], (ons[i]?).getD (fun _ _ _ => True)⟩
def eatOf (eats : List (List Nat)) (i : Nat) : List Nat := (eats[i]?).getD []
inductive AllStab (n0 : Nat) (T : Nat → Prop) : List (List Nat) → List On → Prop
  | nil : AllStab n0 T [] []
  | cons {sl : List Nat} {on : On} {sls : List (List Nat)} {ons : List On} (h : (Ass.mk sl on).Stab n0 T) (t : AllStab n0 T sls ons) : AllStab n0 T (sl :: sls) (on :: ons)
theorem AllStab.at {n0 : Nat} {T : Nat → Prop} {sls : List (List Nat)} {ons : List On} (h : AllStab n0 T sls ons) : ∀ i, (assOf sls ons i).Stab n0 T := by
  induction h with
  | nil => intro i val val' S w w' _ _ _ _; simp [assOf]
  | cons h t ih =>
    intro i
    cases i with
    | zero => exact h
    | succ i => have := ih i; simpa [assOf] using this
inductive AllStep (Z : Nat → Oper → Prop) : Nat → List Oper → Prop
  | nil {k : Nat} : AllStep Z k []
  | cons {k : Nat} {o : Oper} {l : List Oper} (h : Z k o) (t : AllStep Z (k + 1) l) : AllStep Z k (o :: l)
theorem AllStep.at {Z : Nat → Oper → Prop} {k : Nat} {l : List Oper} (h : AllStep Z k l) : ∀ i o, l[i]? = some o → Z (k + i) o := by
  induction h with
  | nil => intro i o h; simp at h
  | cons h t ih =>
    intro i o ho
    cases i with
    | zero => obtain rfl := Option.some.inj ho; exact h
    | succ i =>
      have := ih i o (by simpa using ho)
      rwa [show ∀ k, k + 1 + i = k + (i + 1) from fun k => by omega] at this
theorem St.kept {ops : Array Oper} {A : Nat → Ass} {eat : Nat → List Nat} {N : Nat} {T : Nat → Prop} {w0 : World} {a0 : Act} {L : Nat → Bool} {a : Act} {w : World} {own : Nat → Nat → Prop} (h : St ops A eat N T w0 a0 L a w own) (t : Nat) (ht : foreign ops t = true) : slotsOf a t = slotsOf a0 t :=
  h.keep t (fun j o ho hd => by
    have := all_range ht (Array.getElem?_eq_some_iff.1 ho).1
    simp [ho, hd] at this)
/-- What there is behind the region. -/
structure Fin_ (ops : Array Oper) (sls : List (List Nat)) (ons : List On) (eats : List (List Nat)) (N : Nat) (T : Nat → Prop) (w0 : World) (a0 : Act) (a : Act) (w : World) (own : Nat → Nat → Prop) : Prop where
  st : St ops (assOf sls ons) (eatOf eats) N T w0 a0 (fun _ => true) a w own
theorem Fin_.get {ops : Array Oper} {sls : List (List Nat)} {ons : List On} {eats : List (List Nat)} {N : Nat} {T : Nat → Prop} {w0 : World} {a0 a : Act} {w : World} {own : Nat → Nat → Prop} (h : Fin_ ops sls ons eats N T w0 a0 a w own) (i : Nat)
    (hi : (decide (i < ops.size + N) && (List.range ops.size).all (fun j => !(eatOf eats j).contains i)) = true) : (assOf sls ons i).on (slotsOf a) (own i) w := by
  rw [Bool.and_eq_true] at hi
  exact h.st.holds i (of_decide_eq_true hi.1) rfl (fun j hj he => by
    have := all_range hi.2 hj
    simp [he] at this)
theorem Fin_.at {ops : Array Oper} {sls : List (List Nat)} {ons : List On} {eats : List (List Nat)} {N : Nat} {T : Nat → Prop} {w0 : World} {a0 a : Act} {w : World} {own : Nat → Nat → Prop} (h : Fin_ ops sls ons eats N T w0 a0 a w own) (i : Nat) (on : On) (hon : ons[i]? = some on)
    (hi : (decide (i < ops.size + N) && (List.range ops.size).all (fun j => !(eatOf eats j).contains i)) = true) : on (slotsOf a) (own i) w := by
  have := h.get i hi
  simp only [assOf, hon, Option.getD_some] at this
  exact this
theorem wp_region_lists {l : List Oper} {id : Nat} {a : Act} {w : World} (sls : List (List Nat)) (ons : List On) (eats : List (List Nat)) (N : Nat) (T : Nat → Prop) (own : Nat → Nat → Prop) (hm : P.follows .mixedOrders = true)
    (hc : FitB l.toArray (fun i => (sls[i]?).getD []) (eatOf eats) N a.tmps.size) (hst : AllStab w.heap.size T sls ons)
    (hap : ∀ i j k, own i k → own j k → i = j) (hmi : ∀ i k, own i k → l.length ≤ i ∧ T k ∧ k < w.heap.size) (hh : ∀ i, l.length ≤ i → i < l.length + N → (assOf sls ons i).on (slotsOf a) (own i) w.drew)
    (hstep : AllStep (StepOk P l.toArray Q (assOf sls ons) (eatOf eats) N T w.drew a) 0 l)
    (hend : ∀ a' w' own, Fin_ l.toArray sls ons eats N T w.drew a a' w' own → Q .normal a' w') : (Code.region id l.toArray true).wp P Q a w :=
  wp_region_inv (assOf sls ons) (eatOf eats) N T own hm hc (fun i _ => hst.at i) hap (fun i k h => by simpa using hmi i k h) (fun i h1 h2 => hh i (by simpa using h1) (by simpa using h2))
    (fun i o ho => by have := hstep.at i o (by simpa using ho); rwa [Nat.zero_add] at this) (fun a' w' own h => hend a' w' own ⟨h⟩)
end
/-! #### steps -/
section
variable {P : Program} {o : Oper} {a : Act} {w w' : World} {K : Act → World → Prop} {Q : Exit → Act → World → Prop} {E : Prop} {ops : Array Oper} {v : Value}
theorem op_val (v : Value) (w' : World) (hg : o.guard = none) (h : (execOp a.eval o).run P w = .ok (.value v) w') (hk : K (a.put o.dst v) w') : if Region.wanted o (yielded ops a.tmps) = true then Oper.wp P o a w K Q else E := by
  rw [if_pos (by simp [Region.wanted, hg])]
  unfold Oper.wp
  rw [h]; exact hk
theorem op_call {f : FuncId} {args : Array Value} (R : Value → World → Prop) (hg : o.guard = none) (h : (execOp a.eval o).run P w = .ok (.enter f args) w) (hc : Calls P f args w fun e w' => ∃ v, e = .returned v ∧ R v w') (hk : ∀ v w', R v w' → K (a.put o.dst v) w') : if Region.wanted o (yielded ops a.tmps) = true then Oper.wp P o a w K Q else E := by
  rw [if_pos (by simp [Region.wanted, hg])]
  unfold Oper.wp
  rw [h]
  exact hc.mono (by rintro e w' ⟨v, rfl, h⟩; exact hk v w' h)
/-- A guarded operation: what its guard tells. -/
theorem yield_of {j : Nat} {t : Tmp} {p : Oper} {b : Bool} (hj : ops[j]? = some p) (hd : p.dst = some t) (h : a.eval (.tmp t) = .bool b) : yielded ops a.tmps j = some b := by
  unfold yielded
  rw [hj, Option.bind_some, hd, Option.bind_some]
  have h' : a.tmps.getD t undef = .bool b := h
  rw [Array.getD_eq_getD_getElem?] at h'
  cases hx : a.tmps[t]? with
  | none => rw [hx] at h'; cases h'
  | some v => rw [hx] at h'; obtain rfl : v = .bool b := h'; rfl
theorem want_yes {j : Nat} {b : Bool} (hg : o.guard = some (j, b)) (h : yielded ops a.tmps j = some b) : Region.wanted o (yielded ops a.tmps) = true := by simp [Region.wanted, hg, h]
theorem want_no {j : Nat} {b : Bool} (hg : o.guard = some (j, b)) (h : yielded ops a.tmps j = some (!b)) : Region.wanted o (yielded ops a.tmps) = false := by cases b <;> simp [Region.wanted, hg, h]
theorem gop_val (v : Value) (w' : World) (hg : Region.wanted o (yielded ops a.tmps) = true) (h : (execOp a.eval o).run P w = .ok (.value v) w') (hk : K (a.put o.dst v) w') : if Region.wanted o (yielded ops a.tmps) = true then Oper.wp P o a w K Q else E := by
  rw [if_pos hg]
  unfold Oper.wp
  rw [h]; exact hk
theorem gop_call {f : FuncId} {args : Array Value} (R : Value → World → Prop) (hg : Region.wanted o (yielded ops a.tmps) = true) (h : (execOp a.eval o).run P w = .ok (.enter f args) w) (hc : Calls P f args w fun e w' => ∃ v, e = .returned v ∧ R v w') (hk : ∀ v w', R v w' → K (a.put o.dst v) w') : if Region.wanted o (yielded ops a.tmps) = true then Oper.wp P o a w K Q else E := by
  rw [if_pos hg]
  unfold Oper.wp
  rw [h]
  exact hc.mono (by rintro e w' ⟨v, rfl, h⟩; exact hk v w' h)
theorem gop_not {A : Prop} (hg : Region.wanted o (yielded ops a.tmps) = false) (hk : E) : if Region.wanted o (yielded ops a.tmps) = true then A else E := by
  rw [if_neg (by rw [hg]; decide)]; exact hk
/-- An operation that leaves the world alone. -/
theorem post_pure {A : Nat → Ass} {eat : Nat → List Nat} {own : Nat → Nat → Prop} {i : Nat} {v : Value} (h : (A i).on (fun t => if o.dst = some t then v else slotsOf a t) (fun _ => False) w) : Post A eat own i o a w v w :=
  ⟨fun _ => False, Foot.refl _ _, h, fun _ h => h.elim⟩
/-- An operation that makes memory. -/
theorem post_new {A : Nat → Ass} {eat : Nat → List Nat} {own : Nat → Nat → Prop} {i : Nat} {v : Value} (hB : Below w.heap.size w w') (h : (A i).on (fun t => if o.dst = some t then v else slotsOf a t) (fun k => w.heap.size ≤ k ∧ k < w'.heap.size) w') : Post A eat own i o a w v w' :=
  ⟨fun k => w.heap.size ≤ k ∧ k < w'.heap.size, Foot.of_below hB, h, fun k h => .inr h⟩
end
section
variable {P : Program} {o : Oper} {a : Act} {w w' : World} {K : Act → World → Prop} {Q : Exit → Act → World → Prop} {E : Prop} {ops : Array Oper} {v : Value}
end
section
variable {P : Program} {o : Oper} {a : Act} {w w' : World} {K : Act → World → Prop} {Q : Exit → Act → World → Prop} {E : Prop} {ops : Array Oper} {v : Value}
/-- A struct is stored whole, into a block of its size. -/
theorem step_store {cs : List Value} {old : Array Value} {b : Nat} {ty : TypeId} (hg : o.guard = none) (t : TypeId) (x y : Operand) (ho : o.op = .store t x y) (hx : a.eval x = .pointer (some ⟨b, 0, none⟩)) (hy : a.eval y = .agg cs.toArray)
    (hb : w.heap[b]? = some (.cells old ty (0, 0))) (hi : (P.info? t).map (·.size) = some cs.length) (hs : old.size = cs.length) (h1 : ∀ u ∈ cs, u.oneCell' = true)
    (hk : ∀ w1, w1.heap[b]? = some (.cells cs.toArray ty (0, 0)) → Foot (fun k => k = b) w w1 → K (a.put o.dst undef) w1) : if Region.wanted o (yielded ops a.tmps) = true then Oper.wp P o a w K Q else E := by
  rw [if_pos (by simp [Region.wanted, hg])]
  refine wp_store_row t x y ho b cs.toArray hx hy ty old hb (by simpa using hi) (by simpa using hs) (Array.all_eq_true_iff_forall_mem.2 (fun u hu => h1 u (by simpa using hu))) (hk _ (setRow_heap w b old _ ty _ hb) ?_)
  exact ⟨rfl, rfl, rfl, by simp [World.setRow], fun k hk hn => by simp only [World.setRow, Array.getElem?_modify]; rw [if_neg (fun e => hn e.symm)]⟩
theorem wpList_store {rest : List Oper} {cs : List Value} {old : Array Value} {b : Nat} {ty : TypeId} (hg : o.guard = none) (t : TypeId) (x y : Operand) (ho : o.op = .store t x y) (hx : a.eval x = .pointer (some ⟨b, 0, none⟩)) (hy : a.eval y = .agg cs.toArray)
    (hb : w.heap[b]? = some (.cells old ty (0, 0))) (hi : (P.info? t).map (·.size) = some cs.length) (hs : old.size = cs.length) (h1 : ∀ u ∈ cs, u.oneCell' = true)
    (hk : ∀ w1, w1.heap[b]? = some (.cells cs.toArray ty (0, 0)) → Foot (fun k => k = b) w w1 → wpList P ops Q rest (a.put o.dst undef) w1) : wpList P ops Q (o :: rest) a w :=
  wpList_step (fun K hK => step_store hg t x y ho hx hy hb hi hs h1 (fun w1 h2 h3 => hK _ _ (hk w1 h2 h3)))
theorem wpList_load {rest : List Oper} {cs : List Value} {b : Nat} {e : TypeId} {d : TypeDesc} (hw : Region.wanted o (yielded ops a.tmps) = true) (t : TypeId) (x : Operand) (ho : o.op = .load t x) (hx : a.eval x = .pointer (some ⟨b, 0, none⟩))
    (hb : w.heap[b]? = some (.cells cs.toArray e (0, 0))) (hu : P.underlying t = some d) (hd : d.isRow = true) (hi : (P.info? t).map (·.size) = some cs.length)
    (hk : wpList P ops Q rest (a.put o.dst (.agg cs.toArray)) w) : wpList P ops Q (o :: rest) a w :=
  wpList_step (fun K hK => by
    rw [if_pos hw]
    unfold Oper.wp execOp
    simp only [ho, hx, Sem.run_bind, run_loadAt_mid w b 0 t cs d (fun j v hv => by rw [Nat.zero_add]; rw [cell_of_row w b _ cs.toArray e (0, 0) hb]; simpa using hv) hu hd hi, Result.andThen_ok]
    exact hK _ _ hk)
end
/-! #### what is often said -/
section
variable {n0 : Nat} {T : Nat → Prop}
theorem stab_val (t : Nat) (p : Value → Prop) : (Ass.mk [t] (fun val _ _ => p (val t))).Stab n0 T := fun val val' S w w' h hs _ _ => by
  show p (val' t)
  rw [hs t (by simp)]; exact h
def onR {α : Type} (d : Kd α) (t : Nat) (xs : List α) : On := fun val S w => d.R w S (val t) xs
theorem stab_R {α : Type} (d : Kd α) (t : Nat) (xs : List α) : (Ass.mk [t] (onR d t xs)).Stab n0 T := fun val val' S w w' h hs hk _ => by
  show d.R w' S (val' t) xs
  rw [hs t (by simp)]
  exact Kd.R_move (fun k h1 h2 => ⟨h1, hk k (.inl h1) h2⟩) h
def onO {α : Type} (d : Kd α) (t : Nat) (x : α) : On := fun val S w => ∃ cs : List Value, val t = .agg cs.toArray ∧ d.O w S x cs
/-- A row that there was. -/
def onRc {α : Type} (d : Kd α) (v : Value) (xs : List α) : On := fun _ S w => d.R w S v xs
/-- A block of one's own, at a known place. -/
def onCells (b : Nat) (cs : Array Value) (ty : TypeId) : On := fun _ S w => w.heap[b]? = some (.cells cs ty (0, 0)) ∧ S b
/-- A block of one's own, behind a pointer. -/
def onBox (t : Nat) (cs : Array Value) (ty : TypeId) : On := fun val S w => ∃ b, val t = .pointer (some ⟨b, 0, none⟩) ∧ w.heap[b]? = some (.cells cs ty (0, 0)) ∧ S b
theorem stab_box (t : Nat) (cs : Array Value) (ty : TypeId) : (Ass.mk [t] (onBox t cs ty)).Stab n0 T := fun val val' S w w' h hs hk _ => by
  obtain ⟨b, h0, h1, h2⟩ := h
  exact ⟨b, by rw [hs t (by simp)]; exact h0, (hk b (.inl h2) (Array.getElem?_eq_some_iff.1 h1).1).trans h1, h2⟩
/-- A struct that lies in a block of one's own, at a known place. -/
def onAt {α : Type} (d : Kd α) (b : Nat) (ty : TypeId) (x : α) : On := fun _ S w => ∃ cs : List Value, w.heap[b]? = some (.cells cs.toArray ty (0, 0)) ∧ S b ∧ d.O w (fun k => S k ∧ k ≠ b) x cs
/-- A struct that lies in a block of one's own, behind a pointer. -/
def onPtr {α : Type} (d : Kd α) (t : Nat) (ty : TypeId) (x : α) : On := fun val S w => ∃ b, ∃ cs : List Value, val t = .pointer (some ⟨b, 0, none⟩) ∧ w.heap[b]? = some (.cells cs.toArray ty (0, 0)) ∧ S b ∧ d.O w (fun k => S k ∧ k ≠ b) x cs
/-- The variadic's box of one element. -/
def onOne {α : Type} (d : Kd α) (t : Nat) (x : α) : On := fun val S w => ∃ b, ∃ cs : List Value, val t = .slice (some ⟨b, 0, none⟩) 1 1 ∧ w.heap[b]? = some (.cells cs.toArray d.ty (0, 0)) ∧ S b ∧ d.O w (fun k => S k ∧ k ≠ b) x cs
end
end
section
open Go.RowKit
set_option linter.unusedVariables false
theorem Foot.of_grown {w w1 : World} {S : Nat → Prop} {row : Option Nat} (hg : w.grownBy w1 row) (hr : ∀ k, row = some k → S k) : Foot S w w1 :=
  ⟨hg.os, hg.tape, hg.output, hg.size, fun k hk hn => hg.block k hk (fun e => hn (hr k e.symm))⟩
theorem foot_cell {T : Nat → Prop} {w W : World} {b o : Nat} {u : Value} (h : Foot T w.drew W) (hT : ¬ T b) (hc : w.cell? ⟨b, o, none⟩ = some u) : W.cell? ⟨b, o, none⟩ = some u := by
  have hl := World.block_lt_of_cell? w _ hc
  exact (World.cell?_of_block (w := w) (w' := W) (h.block b hl hT)).trans hc
theorem foot_V {α : Type} {d : Kd α} {T ok : Nat → Prop} {w W : World} {v : Value} {xs : List α} (h : Foot T w.drew W) (hT : ∀ k, ok k → ¬ T k) (hV : d.V w ok v xs) (hp : 0 < d.sz) : d.V W ok v xs :=
  Kd.V_move (w := w) (fun k h1 h2 => ⟨h1, h.block k h2 (hT k h1)⟩) hV hp
section
variable {o : Oper} {a : Act} {w : World} {K : Act → World → Prop} {Q : Exit → Act → World → Prop} {E : Prop} {ops : Array Oper}
end
end
section
def Lay {α : Type} (P : List α → Prop) : Nat → List α → Prop
  | 0, acc => P acc
  | n + 1, acc => ∀ x, Lay P n (x :: acc)
end
section
open Go.RowKit
/-- From the last place on: what is kept stands as it was, else there is some x. -/
def LayM {α : Type} (P : List α → Prop) : List Bool → List α → List α → Prop
  | [], _, acc => P acc
  | _ :: _, [], acc => P acc
  | true :: m, v :: l, acc => LayM P m l (v :: acc)
  | false :: m, _ :: l, acc => ∀ x, LayM P m l (x :: acc)
theorem layM_of {α : Type} {P : List α → Prop} : ∀ (m : List Bool) (l0 l acc : List α), m.length = l0.length → l.length = l0.length → (∀ t : Nat, m[t]? = some true → l[t]? = l0[t]?) → LayM P m l0 acc → P (l.reverse ++ acc)
  | [], l0, l, acc, hm, hl, hk, h => by
    have : l0 = [] := List.eq_nil_of_length_eq_zero (by simpa using hm.symm)
    subst this
    have : l = [] := List.eq_nil_of_length_eq_zero (by simpa using hl)
    subst this
    exact h
  | b :: m, [], l, acc, hm, hl, hk, h => by simp at hm
  | b :: m, v0 :: l0, [], acc, hm, hl, hk, h => by simp at hl
  | b :: m, v0 :: l0, v :: l, acc, hm, hl, hk, h => by
    rw [List.reverse_cons, List.append_assoc]
    have hk' : ∀ t : Nat, m[t]? = some true → l[t]? = l0[t]? := fun t ht => by have := hk (t + 1) (by simpa using ht); simpa using this
    cases b with
    | true =>
      have h0 := hk 0 (by simp)
      simp at h0
      subst h0
      exact layM_of m l0 l _ (by simpa using hm) (by simpa using hl) hk' h
    | false => exact layM_of m l0 l _ (by simpa using hm) (by simpa using hl) hk' (h v)
theorem layM_rev {α : Type} {P : List α → Prop} (m : List Bool) {l0 l : List α} (hm : m.length = l0.length) (hl : l.length = l0.length) (hk : ∀ t : Nat, t < l0.length → m[t]? = some true → l[t]? = l0[t]?) (h : LayM P m.reverse l0.reverse []) : P l := by
  have := layM_of m.reverse l0.reverse l.reverse [] (by simpa using hm) (by simpa using hl) (fun t ht => by
    have hlt : t < m.length := by have := (List.getElem?_eq_some_iff.1 ht).1; simpa using this
    rw [List.getElem?_reverse (by omega)] at ht
    rw [List.getElem?_reverse (by omega), List.getElem?_reverse (by omega), hl]
    exact hk _ (by omega) (by rw [← hm]; exact ht)) h
  rwa [List.append_nil, List.reverse_reverse] at this
def maskOk (ops : Array Oper) (m : List Bool) : Bool := (List.range m.length).all (fun t => !(m.getD t false) || foreign ops t)
theorem slots_list {l : List Value} {df} (t : Nat) : slotsOf ⟨l.toArray, df⟩ t = (l[t]?).getD undef := by simp [slotsOf, Act.eval]
theorem lay_intro {ops : Array Oper} {a0 : Act} {df} {R : Act → Prop} (m : List Bool) (hm : (decide (m.length = a0.tmps.toList.length) && maskOk ops m) = true) (hdf : a0.defers = df)
    (h : LayM (fun l => R ⟨l.toArray, df⟩) m.reverse a0.tmps.toList.reverse []) : ∀ a : Act, a.tmps.size = a0.tmps.size → a.defers = a0.defers → (∀ t, foreign ops t = true → slotsOf a t = slotsOf a0 t) → R a := by
  intro a hs hd hk
  rw [Bool.and_eq_true] at hm
  have hm0 := of_decide_eq_true hm.1
  subst hdf
  obtain ⟨⟨l0⟩, d0⟩ := a0
  obtain ⟨⟨l⟩, d⟩ := a
  obtain rfl : d = d0 := hd
  have hl : l.length = l0.length := hs
  have hm1 : m.length = l0.length := hm0
  refine layM_rev (P := fun l => R ⟨l.toArray, d⟩) m hm0 hl (fun t hlt ht => ?_) h
  have hlt : t < l0.length := hlt
  have h1 := List.all_eq_true.1 hm.2 t (by simp; omega)
  rw [List.getD_eq_getElem?_getD, ht] at h1
  have h2 := hk t (by simpa using h1)
  rw [slots_list, slots_list, List.getElem?_eq_getElem (by omega), List.getElem?_eq_getElem (by omega)] at h2
  rw [List.getElem?_eq_getElem (by omega), List.getElem?_eq_getElem (by omega)]
  simpa using h2
end
section
open Go.RowKit
set_option linter.unusedVariables false
set_option maxRecDepth 100000
theorem UPost.is {w w' : World} {B : Nat} {okE : Nat → Prop} {e : Ending} {r : Option (List Bind)} (h : UPost w w' B okE e r) : ∃ v, e = .returned (.tuple #[v, .bool r.isSome]) ∧ Below B w w' := by
  obtain ⟨_, _, _, _, hb, h⟩ := h
  cases r with
  | none => exact ⟨_, h, hb⟩
  | some s1 => obtain ⟨v1, h, _⟩ := h; exact ⟨_, h, hb⟩
theorem unify0 {w : World} {ok ok2 : Nat → Prop} {va vb : Value} {a b : Term} (hA : kCell.V w ok va a) (hB : kCell.V w ok2 vb b) (ha : trmOk a = true) (hb : trmOk b = true) :
    Calls Tryz.prog 69 #[.slice none 0 0, va, vb] w fun e w' => ∃ v, e = .returned (.tuple #[v, .bool (sameU a b)]) ∧ Below w.heap.size w w' := by
  obtain ⟨n, r, h, _⟩ := uni_total BOk.nil ha hb
  refine (unify_i n _ va vb [] a b w.heap.size (fun k => k < w.heap.size) w r BOk.nil (.inl ⟨none, rfl, none, 0, rfl, Nat.le_refl _, by simp [maxLen], by simp, .inl rfl⟩) (Kd.V_move (fun k _ hl => ⟨hl, rfl⟩) hA (by decide)) (Kd.V_move (fun k _ hl => ⟨hl, rfl⟩) hB (by decide)) ha hb (fun k h => h) (Nat.le_refl _) h).mono ?_
  intro e w' hp
  rw [← sameU_eq h]
  exact hp.is
theorem TrmOk_b {v : Value} {t : Term} {ok : Nat → Prop} {w : World} {b : Bool} (hV : kCell.V w ok v t) (h : trmOk t = b) : Calls Tryz.prog 54 #[v] w fun e w' => e = .returned (.bool b) ∧ Below w.heap.size w w' := by
  rw [← h]; exact TrmOk_i v t ok w hV
theorem TrmSame_b {v u : Value} {t s : Term} {ok ok' : Nat → Prop} {w : World} {b : Bool} (hV : kCell.V w ok v t) (hU : kCell.V w ok' u s) (h : decide (t = s) = b) : Calls Tryz.prog 67 #[v, u] w fun e w' => e = .returned (.bool b) ∧ Below w.heap.size w w' := by
  rw [← h]; exact TrmSame_i v u t s ok ok' w hV hU
set_option maxHeartbeats 16000000 in
theorem OutOk_i (v u : Value) (top t : Term) (st : Int) (ok : Nat → Prop) (w : World) (hV : kCell.V w ok v top) (hT : kCell.V w ok u t) :
    Calls Tryz.prog 53 #[v, .agg #[.int .i64 st, u]] w fun e w' => e = .returned (.bool (outOk top st t)) ∧ Below w.heap.size w w' := by
  obtain ⟨Au, cu, rfl, -⟩ := id hT
  have b0 : Below w.heap.size w (w.alloc (.cells #[.int .i64 st, .slice Au t.length cu] 32)) := belA (Below.refl _ _) _
  have HW : Sec (∀ W, Below (w.alloc (.cells #[.int .i64 st, .slice Au t.length cu] 32)).heap.size (w.alloc (.cells #[.int .i64 st, .slice Au t.length cu] 32)) W → W.cell? ⟨w.heap.size, 0, none⟩ = some (.int .i64 st) ∧ W.cell? ⟨w.heap.size, 1, none⟩ = some (.slice Au t.length cu)) := ⟨fun W h => by
    have X := (box_at ((h.block _ (Array.getElem?_eq_some_iff.1 (heap_alloc_new w (.cells #[.int .i64 st, .slice Au t.length cu] 32))).1).trans (heap_alloc_new w _))).2.1
    exact ⟨X 0 _ rfl, X 1 _ rfl⟩⟩
  have HT : Sec (∀ W, Below (w.alloc (.cells #[.int .i64 st, .slice Au t.length cu] 32)).heap.size (w.alloc (.cells #[.int .i64 st, .slice Au t.length cu] 32)) W → kCell.V W ok (.slice Au t.length cu) t) := ⟨fun W h => Kd.V_below hT (bel b0 h) (by decide)⟩
  have HV : Sec (∀ W, Below (w.alloc (.cells #[.int .i64 st, .slice Au t.length cu] 32)).heap.size (w.alloc (.cells #[.int .i64 st, .slice Au t.length cu] 32)) W → kCell.V W ok v top) := ⟨fun W h => Kd.V_below hV (bel b0 h) (by decide)⟩
  have BB : Sec (∀ W, Below (w.alloc (.cells #[.int .i64 st, .slice Au t.length cu] 32)).heap.size (w.alloc (.cells #[.int .i64 st, .slice Au t.length cu] 32)) W → Below w.heap.size w W) := ⟨fun W h => bel b0 h⟩
  have hlen : t.length ≤ 1073741824 := by obtain ⟨_, _, _, _, _, h, _⟩ := hT; exact h
  obtain ⟨Av, cv, rfl, -⟩ := id hV
  clear hT hV b0
  cases hq : question top with
  | false =>
    have HE : Sec (outOk top st t = false) := ⟨by unfold outOk; rw [hq]; rfl⟩
    have HQ := Sec.mk hq
    clear hq
    go_enter Tryz.func53, Tryz.ntmps53
    go_wp2_with (go_at_call 51; refine (isQuestion_i _ top ok _ (HV.out _ (Below.refl _ _))).mono ?_; rw [HQ.out]; rintro e w1 ⟨rfl, hb⟩; have B1 := Sec.mk hb; clear hb)
    go_ret
    exact ⟨rb HE.out.symm, BB.out _ B1.out⟩
  | true =>
    have HQ := Sec.mk hq
    clear hq
    cases hi : inB st 3 5 with
    | true =>
      have HI := Sec.mk hi
      have HE : Sec (outOk top st t = ((t.length : Int) == 0)) := ⟨by
        unfold outOk
        have h2 : st ≠ 2 := by rintro rfl; simp [inB] at hi
        rw [HQ.out, if_neg h2, hi, Bool.true_and, Bool.true_and]
        cases t with
        | nil => rfl
        | cons c r => simp; omega⟩
      clear hi
      go_enter Tryz.func53, Tryz.ntmps53
      go_wp2_with (first | (go_at_call 51; refine (isQuestion_i _ top ok _ (HV.out _ (Below.refl _ _))).mono ?_; rw [HQ.out]; rintro e w1 ⟨rfl, hb⟩; have B1 := Sec.mk hb; obtain ⟨p0, p1⟩ := HW.out _ hb; clear hb) | (go_at_call 52; refine (in_c _ _ _ _).mono ?_; rw [HI.out]; rintro e w' ⟨rfl, rfl⟩))
      go_ret
      exact ⟨rb HE.out.symm, BB.out _ B1.out⟩
    | false =>
      have HI := Sec.mk hi
      clear hi
      by_cases h2 : st = 2
      · have d2 : (st != 2) = false := by rw [bne_eq_false_iff_eq]; exact h2
        have H2 := Sec.mk h2
        clear h2
        have D2 := Sec.mk d2
        clear d2
        cases ht : trmOk t with
        | false =>
          have HE : Sec (outOk top st t = false) := ⟨by unfold outOk; rw [HQ.out, if_pos H2.out, ht]; rfl⟩
          have HTT := Sec.mk ht
          clear ht
          go_enter Tryz.func53, Tryz.ntmps53
          go_wp2_with (first | (go_at_call 51; refine (isQuestion_i _ top ok _ (HV.out _ (Below.refl _ _))).mono ?_; rw [HQ.out]; rintro e wr ⟨rfl, hb⟩; have B1 := Sec.mk hb; obtain ⟨p0, p1⟩ := HW.out _ hb; have P0 := Sec.mk p0; have P1 := Sec.mk p1; have HTW := Sec.mk (HT.out _ hb); have HVW := Sec.mk (HV.out _ hb); clear hb) | (go_at_call 52; refine (in_c _ _ _ _).mono ?_; rw [HI.out]; rintro e w' ⟨rfl, rfl⟩))
          clear p0 p1
          refine wp_region_lists [[20], [21], [22], [23], [24], [25], [26], [27], [28], [29], [30], [31], [32], [33], [34], [35], [36], [37], [19]]
            [fun val _ _ => val 20 = .pointer (some ⟨w.heap.size, 0, none⟩),
              fun val _ _ => val 21 = .int .i64 st,
              fun val _ _ => val 22 = .bool false,
              fun val _ _ => val 23 = .bool false,
              fun val _ _ => val 24 = .pointer (some ⟨w.heap.size, 1, none⟩),
              fun val _ _ => val 25 = .slice Au t.length cu,
              fun val _ _ => val 26 = .bool false,
              fun val _ _ => val 27 = .bool true,
              fun val _ _ => val 28 = .bool true,
              fun val _ _ => val 29 = .bool true,
              fun val _ _ => val 30 = undef,
              fun val _ _ => val 31 = undef,
              fun val _ _ => val 32 = undef,
              fun val _ _ => val 33 = undef,
              fun val _ _ => val 34 = undef,
              fun val _ _ => val 35 = undef,
              fun val _ _ => val 36 = undef,
              fun val _ _ => val 37 = .bool true,
              fun val _ _ => val 19 = .bool true]
            [[], [], [], [], [], [], [], [], [], [], [], [], [], [], [], [], [], [], []] 0 (fun _ => False) (fun _ _ => False) (by kernel_rfl) ⟨by kernel_rfl, by kernel_rfl, by kernel_rfl, by kernel_rfl, by kernel_rfl⟩
            (.cons (stab_val 20 (fun v => v = .pointer (some ⟨w.heap.size, 0, none⟩))) (.cons (stab_val 21 (fun v => v = .int .i64 st)) (.cons (stab_val 22 (fun v => v = .bool false)) (.cons (stab_val 23 (fun v => v = .bool false)) (.cons (stab_val 24 (fun v => v = .pointer (some ⟨w.heap.size, 1, none⟩))) (.cons (stab_val 25 (fun v => v = .slice Au t.length cu)) (.cons (stab_val 26 (fun v => v = .bool false)) (.cons (stab_val 27 (fun v => v = .bool true)) (.cons (stab_val 28 (fun v => v = .bool true)) (.cons (stab_val 29 (fun v => v = .bool true)) (.cons (stab_val 30 (fun v => v = undef)) (.cons (stab_val 31 (fun v => v = undef)) (.cons (stab_val 32 (fun v => v = undef)) (.cons (stab_val 33 (fun v => v = undef)) (.cons (stab_val 34 (fun v => v = undef)) (.cons (stab_val 35 (fun v => v = undef)) (.cons (stab_val 36 (fun v => v = undef)) (.cons (stab_val 37 (fun v => v = .bool true)) (.cons (stab_val 19 (fun v => v = .bool true)) .nil)))))))))))))))))))
            (fun i j k h1 h2 => h1.elim) (fun i k h => h.elim) (fun i h1 h2 => by simp at h1 h2; omega) (.cons ?_ (.cons ?_ (.cons ?_ (.cons ?_ (.cons ?_ (.cons ?_ (.cons ?_ (.cons ?_ (.cons ?_ (.cons ?_ (.cons ?_ (.cons ?_ (.cons ?_ (.cons ?_ (.cons ?_ (.cons ?_ (.cons ?_ (.cons ?_ (.cons ?_ .nil))))))))))))))))))) ?_
          · intro a W own hfor huse hap hmi hF K hK
            have e3 : a.eval (.tmp 3) = .pointer (some ⟨w.heap.size, 0, none⟩) := hfor 3 (by kernel_rfl)
            refine op_val (.pointer (some ⟨w.heap.size, 0, none⟩)) W rfl ?_ (hK _ _ (post_pure ?_))
            · clear hfor huse hap hmi hK hF
              generalize a.eval = ρ at *
              go_simp
            · exact (if_pos rfl)
          · intro a W own hfor huse hap hmi hF K hK
            have e20 : a.eval (.tmp 20) = .pointer (some ⟨w.heap.size, 0, none⟩) := huse 0 (by kernel_rfl)
            have c0 := foot_cell hF (fun h => h) P0.out
            refine op_val (.int .i64 st) W rfl ?_ (hK _ _ (post_pure ?_))
            · clear hfor huse hap hmi hK hF
              generalize a.eval = ρ at *
              go_simp
            · exact (if_pos rfl)
          · intro a W own hfor huse hap hmi hF K hK
            have e21 : a.eval (.tmp 21) = .int .i64 st := huse 1 (by kernel_rfl)
            have ec23 : a.eval (.const (.int .i64 2)) = .int .i64 2 := rfl
            have d2 := D2.out
            refine op_val (.bool false) W rfl ?_ (hK _ _ (post_pure ?_))
            · clear hfor huse hap hmi hK hF
              generalize a.eval = ρ at *
              go_simp
            · exact (if_pos rfl)
          · intro a W own hfor huse hap hmi hF K hK
            have e22 : a.eval (.tmp 22) = .bool false := huse 2 (by kernel_rfl)
            refine op_val (.bool false) W rfl ?_ (hK _ _ (post_pure ?_))
            · clear hfor huse hap hmi hK hF
              generalize a.eval = ρ at *
              go_simp
            · exact (if_pos rfl)
          · intro a W own hfor huse hap hmi hF K hK
            have e3 : a.eval (.tmp 3) = .pointer (some ⟨w.heap.size, 0, none⟩) := hfor 3 (by kernel_rfl)
            have e23 : a.eval (.tmp 23) = .bool false := huse 3 (by kernel_rfl)
            refine gop_val (.pointer (some ⟨w.heap.size, 1, none⟩)) W (want_yes (j := 3) (b := false) rfl (yield_of (t := 23) rfl rfl e23)) ?_ (hK _ _ (post_pure ?_))
            · clear hfor huse hap hmi hK hF
              generalize a.eval = ρ at *
              go_simp
            · exact (if_pos rfl)
          · intro a W own hfor huse hap hmi hF K hK
            have e24 : a.eval (.tmp 24) = .pointer (some ⟨w.heap.size, 1, none⟩) := huse 4 (by kernel_rfl)
            have e23 : a.eval (.tmp 23) = .bool false := huse 3 (by kernel_rfl)
            have c1 := foot_cell hF (fun h => h) P1.out
            refine gop_val (.slice Au t.length cu) W (want_yes (j := 3) (b := false) rfl (yield_of (t := 23) rfl rfl e23)) ?_ (hK _ _ (post_pure ?_))
            · clear hfor huse hap hmi hK hF
              generalize a.eval = ρ at *
              go_simp
            · exact (if_pos rfl)
          · intro a W own hfor huse hap hmi hF K hK
            have e25 : a.eval (.tmp 25) = .slice Au t.length cu := huse 5 (by kernel_rfl)
            have e23 : a.eval (.tmp 23) = .bool false := huse 3 (by kernel_rfl)
            have hvt := foot_V hF (fun _ _ h => h) HTW.out (by decide)
            have efn : a.eval (.func 54) = .func (.func 54) #[] #[] := rfl
            refine gop_call (f := 54) (args := #[.slice Au t.length cu]) (fun v w1 => v = .bool false ∧ Below W.heap.size W w1) (want_yes (j := 3) (b := false) rfl (yield_of (t := 23) rfl rfl e23)) ?_ ?_ (fun v w1 h => ?_)
            · clear hfor huse hap hmi hK hF
              generalize a.eval = ρ at *
              go_simp
            · exact (TrmOk_b hvt HTT.out).mono (by rintro e w1 ⟨rfl, h2⟩; exact ⟨_, rfl, rfl, h2⟩)
            · obtain ⟨rfl, h2⟩ := h
              exact hK _ _ (post_new h2 (if_pos rfl))
          · intro a W own hfor huse hap hmi hF K hK
            have e26 : a.eval (.tmp 26) = .bool false := huse 6 (by kernel_rfl)
            have e23 : a.eval (.tmp 23) = .bool false := huse 3 (by kernel_rfl)
            refine gop_val (.bool true) W (want_yes (j := 3) (b := false) rfl (yield_of (t := 23) rfl rfl e23)) ?_ (hK _ _ (post_pure ?_))
            · clear hfor huse hap hmi hK hF
              generalize a.eval = ρ at *
              go_simp
            · exact (if_pos rfl)
          · intro a W own hfor huse hap hmi hF K hK
            have e23 : a.eval (.tmp 23) = .bool false := huse 3 (by kernel_rfl)
            have e27 : a.eval (.tmp 27) = .bool true := huse 7 (by kernel_rfl)
            have ec33 : a.eval (.const (.bool true)) = .bool true := rfl
            refine op_val (.bool true) W rfl ?_ (hK _ _ (post_pure ?_))
            · clear hfor huse hap hmi hK hF
              generalize a.eval = ρ at *
              go_simp
            · exact (if_pos rfl)
          · intro a W own hfor huse hap hmi hF K hK
            have e28 : a.eval (.tmp 28) = .bool true := huse 8 (by kernel_rfl)
            refine op_val (.bool true) W rfl ?_ (hK _ _ (post_pure ?_))
            · clear hfor huse hap hmi hK hF
              generalize a.eval = ρ at *
              go_simp
            · exact (if_pos rfl)
          · intro a W own hfor huse hap hmi hF K hK
            have e29 : a.eval (.tmp 29) = .bool true := huse 9 (by kernel_rfl)
            refine gop_not (want_no (j := 9) (b := false) rfl (yield_of (t := 29) rfl rfl e29)) (hK _ _ (post_pure (if_pos rfl)))
          · intro a W own hfor huse hap hmi hF K hK
            have e29 : a.eval (.tmp 29) = .bool true := huse 9 (by kernel_rfl)
            refine gop_not (want_no (j := 9) (b := false) rfl (yield_of (t := 29) rfl rfl e29)) (hK _ _ (post_pure (if_pos rfl)))
          · intro a W own hfor huse hap hmi hF K hK
            have e29 : a.eval (.tmp 29) = .bool true := huse 9 (by kernel_rfl)
            refine gop_not (want_no (j := 9) (b := false) rfl (yield_of (t := 29) rfl rfl e29)) (hK _ _ (post_pure (if_pos rfl)))
          · intro a W own hfor huse hap hmi hF K hK
            have e29 : a.eval (.tmp 29) = .bool true := huse 9 (by kernel_rfl)
            refine gop_not (want_no (j := 9) (b := false) rfl (yield_of (t := 29) rfl rfl e29)) (hK _ _ (post_pure (if_pos rfl)))
          · intro a W own hfor huse hap hmi hF K hK
            have e29 : a.eval (.tmp 29) = .bool true := huse 9 (by kernel_rfl)
            refine gop_not (want_no (j := 9) (b := false) rfl (yield_of (t := 29) rfl rfl e29)) (hK _ _ (post_pure (if_pos rfl)))
          · intro a W own hfor huse hap hmi hF K hK
            have e29 : a.eval (.tmp 29) = .bool true := huse 9 (by kernel_rfl)
            refine gop_not (want_no (j := 9) (b := false) rfl (yield_of (t := 29) rfl rfl e29)) (hK _ _ (post_pure (if_pos rfl)))
          · intro a W own hfor huse hap hmi hF K hK
            have e29 : a.eval (.tmp 29) = .bool true := huse 9 (by kernel_rfl)
            refine gop_not (want_no (j := 9) (b := false) rfl (yield_of (t := 29) rfl rfl e29)) (hK _ _ (post_pure (if_pos rfl)))
          · intro a W own hfor huse hap hmi hF K hK
            have e29 : a.eval (.tmp 29) = .bool true := huse 9 (by kernel_rfl)
            have e36 : a.eval (.tmp 36) = undef := huse 16 (by kernel_rfl)
            have ec33 : a.eval (.const (.bool true)) = .bool true := rfl
            refine op_val (.bool true) W rfl ?_ (hK _ _ (post_pure ?_))
            · clear hfor huse hap hmi hK hF
              generalize a.eval = ρ at *
              go_simp
            · exact (if_pos rfl)
          · intro a W own hfor huse hap hmi hF K hK
            have e37 : a.eval (.tmp 37) = .bool true := huse 17 (by kernel_rfl)
            refine op_val (.bool true) W rfl ?_ (hK _ _ (post_pure ?_))
            · clear hfor huse hap hmi hK hF
              generalize a.eval = ρ at *
              go_simp
            · exact (if_pos rfl)
          intro a' W own hf
          have s1 := hf.st.size
          have s2 := hf.st.rest
          have s3 := fun t ht => hf.st.kept t ht
          revert hf
          revert a'
          refine lay_intro (df := []) [true, true, true, true, true, true, true, true, true, true, true, true, true, true, true, true, true, true, true, false, false, false, false, false, false, false, false, false, false, false, false, false, false, false, false, false, false, false, true, true, true, true, true, true, true, true, true, true, true, true] (by kernel_rfl) rfl ?_
          intro x37 x36 x35 x34 x33 x32 x31 x30 x29 x28 x27 x26 x25 x24 x23 x22 x21 x20 x19 hf
          have e19 : x19 = .bool true := hf.at 18 (fun val _ _ => val 19 = .bool true) rfl (by kernel_rfl)
          subst e19
          have HF := Sec.mk hf.st.foot
          have BF := Sec.mk (HF.out.below (belD B1.out) (fun k h => h.elim))
          clear hf HF
          go_wp2
          go_ret
          exact ⟨rb HE.out.symm, BB.out _ BF.out⟩
        | true =>
          have HTT := Sec.mk ht
          cases hc : decide (t = canon t) with
          | false =>
            have hc' : decide (canon t = t) = false := decide_eq_false (fun e => of_decide_eq_false hc e.symm)
            have HE : Sec (outOk top st t = false) := ⟨by unfold outOk; rw [HQ.out, if_pos H2.out, ht, hc']; rfl⟩
            have HCQ := Sec.mk hc
            clear ht hc hc'
            go_enter Tryz.func53, Tryz.ntmps53
            go_wp2_with (first | (go_at_call 51; refine (isQuestion_i _ top ok _ (HV.out _ (Below.refl _ _))).mono ?_; rw [HQ.out]; rintro e wr ⟨rfl, hb⟩; have B1 := Sec.mk hb; obtain ⟨p0, p1⟩ := HW.out _ hb; have P0 := Sec.mk p0; have P1 := Sec.mk p1; have HTW := Sec.mk (HT.out _ hb); have HVW := Sec.mk (HV.out _ hb); clear hb) | (go_at_call 52; refine (in_c _ _ _ _).mono ?_; rw [HI.out]; rintro e w' ⟨rfl, rfl⟩))
            clear p0 p1
            refine wp_region_lists [[20], [21], [22], [23], [24], [25], [26], [27], [28], [29], [30], [31], [32], [33], [34], [35], [36], [37], [19]]
              [fun val _ _ => val 20 = .pointer (some ⟨w.heap.size, 0, none⟩),
                fun val _ _ => val 21 = .int .i64 st,
                fun val _ _ => val 22 = .bool false,
                fun val _ _ => val 23 = .bool false,
                fun val _ _ => val 24 = .pointer (some ⟨w.heap.size, 1, none⟩),
                fun val _ _ => val 25 = .slice Au t.length cu,
                fun val _ _ => val 26 = .bool true,
                fun val _ _ => val 27 = .bool false,
                fun val _ _ => val 28 = .bool false,
                fun val _ _ => val 29 = .bool false,
                fun val _ _ => val 30 = .pointer (some ⟨w.heap.size, 1, none⟩),
                fun val _ _ => val 31 = .slice Au t.length cu,
                fun val _ _ => val 32 = .pointer (some ⟨w.heap.size, 1, none⟩),
                fun val _ _ => val 33 = .slice Au t.length cu,
                onR kCell 34 (canon t),
                fun val _ _ => val 35 = .bool false,
                fun val _ _ => val 36 = .bool true,
                fun val _ _ => val 37 = .bool true,
                fun val _ _ => val 19 = .bool true]
              [[], [], [], [], [], [], [], [], [], [], [], [], [], [], [], [], [], [], []] 0 (fun _ => False) (fun _ _ => False) (by kernel_rfl) ⟨by kernel_rfl, by kernel_rfl, by kernel_rfl, by kernel_rfl, by kernel_rfl⟩
              (.cons (stab_val 20 (fun v => v = .pointer (some ⟨w.heap.size, 0, none⟩))) (.cons (stab_val 21 (fun v => v = .int .i64 st)) (.cons (stab_val 22 (fun v => v = .bool false)) (.cons (stab_val 23 (fun v => v = .bool false)) (.cons (stab_val 24 (fun v => v = .pointer (some ⟨w.heap.size, 1, none⟩))) (.cons (stab_val 25 (fun v => v = .slice Au t.length cu)) (.cons (stab_val 26 (fun v => v = .bool true)) (.cons (stab_val 27 (fun v => v = .bool false)) (.cons (stab_val 28 (fun v => v = .bool false)) (.cons (stab_val 29 (fun v => v = .bool false)) (.cons (stab_val 30 (fun v => v = .pointer (some ⟨w.heap.size, 1, none⟩))) (.cons (stab_val 31 (fun v => v = .slice Au t.length cu)) (.cons (stab_val 32 (fun v => v = .pointer (some ⟨w.heap.size, 1, none⟩))) (.cons (stab_val 33 (fun v => v = .slice Au t.length cu)) (.cons (stab_R kCell 34 (canon t)) (.cons (stab_val 35 (fun v => v = .bool false)) (.cons (stab_val 36 (fun v => v = .bool true)) (.cons (stab_val 37 (fun v => v = .bool true)) (.cons (stab_val 19 (fun v => v = .bool true)) .nil)))))))))))))))))))
              (fun i j k h1 h2 => h1.elim) (fun i k h => h.elim) (fun i h1 h2 => by simp at h1 h2; omega) (.cons ?_ (.cons ?_ (.cons ?_ (.cons ?_ (.cons ?_ (.cons ?_ (.cons ?_ (.cons ?_ (.cons ?_ (.cons ?_ (.cons ?_ (.cons ?_ (.cons ?_ (.cons ?_ (.cons ?_ (.cons ?_ (.cons ?_ (.cons ?_ (.cons ?_ .nil))))))))))))))))))) ?_
            · intro a W own hfor huse hap hmi hF K hK
              have e3 : a.eval (.tmp 3) = .pointer (some ⟨w.heap.size, 0, none⟩) := hfor 3 (by kernel_rfl)
              refine op_val (.pointer (some ⟨w.heap.size, 0, none⟩)) W rfl ?_ (hK _ _ (post_pure ?_))
              · clear hfor huse hap hmi hK hF
                generalize a.eval = ρ at *
                go_simp
              · exact (if_pos rfl)
            · intro a W own hfor huse hap hmi hF K hK
              have e20 : a.eval (.tmp 20) = .pointer (some ⟨w.heap.size, 0, none⟩) := huse 0 (by kernel_rfl)
              have c0 := foot_cell hF (fun h => h) P0.out
              refine op_val (.int .i64 st) W rfl ?_ (hK _ _ (post_pure ?_))
              · clear hfor huse hap hmi hK hF
                generalize a.eval = ρ at *
                go_simp
              · exact (if_pos rfl)
            · intro a W own hfor huse hap hmi hF K hK
              have e21 : a.eval (.tmp 21) = .int .i64 st := huse 1 (by kernel_rfl)
              have ec23 : a.eval (.const (.int .i64 2)) = .int .i64 2 := rfl
              have d2 := D2.out
              refine op_val (.bool false) W rfl ?_ (hK _ _ (post_pure ?_))
              · clear hfor huse hap hmi hK hF
                generalize a.eval = ρ at *
                go_simp
              · exact (if_pos rfl)
            · intro a W own hfor huse hap hmi hF K hK
              have e22 : a.eval (.tmp 22) = .bool false := huse 2 (by kernel_rfl)
              refine op_val (.bool false) W rfl ?_ (hK _ _ (post_pure ?_))
              · clear hfor huse hap hmi hK hF
                generalize a.eval = ρ at *
                go_simp
              · exact (if_pos rfl)
            · intro a W own hfor huse hap hmi hF K hK
              have e3 : a.eval (.tmp 3) = .pointer (some ⟨w.heap.size, 0, none⟩) := hfor 3 (by kernel_rfl)
              have e23 : a.eval (.tmp 23) = .bool false := huse 3 (by kernel_rfl)
              refine gop_val (.pointer (some ⟨w.heap.size, 1, none⟩)) W (want_yes (j := 3) (b := false) rfl (yield_of (t := 23) rfl rfl e23)) ?_ (hK _ _ (post_pure ?_))
              · clear hfor huse hap hmi hK hF
                generalize a.eval = ρ at *
                go_simp
              · exact (if_pos rfl)
            · intro a W own hfor huse hap hmi hF K hK
              have e24 : a.eval (.tmp 24) = .pointer (some ⟨w.heap.size, 1, none⟩) := huse 4 (by kernel_rfl)
              have e23 : a.eval (.tmp 23) = .bool false := huse 3 (by kernel_rfl)
              have c1 := foot_cell hF (fun h => h) P1.out
              refine gop_val (.slice Au t.length cu) W (want_yes (j := 3) (b := false) rfl (yield_of (t := 23) rfl rfl e23)) ?_ (hK _ _ (post_pure ?_))
              · clear hfor huse hap hmi hK hF
                generalize a.eval = ρ at *
                go_simp
              · exact (if_pos rfl)
            · intro a W own hfor huse hap hmi hF K hK
              have e25 : a.eval (.tmp 25) = .slice Au t.length cu := huse 5 (by kernel_rfl)
              have e23 : a.eval (.tmp 23) = .bool false := huse 3 (by kernel_rfl)
              have hvt := foot_V hF (fun _ _ h => h) HTW.out (by decide)
              have efn : a.eval (.func 54) = .func (.func 54) #[] #[] := rfl
              refine gop_call (f := 54) (args := #[.slice Au t.length cu]) (fun v w1 => v = .bool true ∧ Below W.heap.size W w1) (want_yes (j := 3) (b := false) rfl (yield_of (t := 23) rfl rfl e23)) ?_ ?_ (fun v w1 h => ?_)
              · clear hfor huse hap hmi hK hF
                generalize a.eval = ρ at *
                go_simp
              · exact (TrmOk_b hvt HTT.out).mono (by rintro e w1 ⟨rfl, h2⟩; exact ⟨_, rfl, rfl, h2⟩)
              · obtain ⟨rfl, h2⟩ := h
                exact hK _ _ (post_new h2 (if_pos rfl))
            · intro a W own hfor huse hap hmi hF K hK
              have e26 : a.eval (.tmp 26) = .bool true := huse 6 (by kernel_rfl)
              have e23 : a.eval (.tmp 23) = .bool false := huse 3 (by kernel_rfl)
              refine gop_val (.bool false) W (want_yes (j := 3) (b := false) rfl (yield_of (t := 23) rfl rfl e23)) ?_ (hK _ _ (post_pure ?_))
              · clear hfor huse hap hmi hK hF
                generalize a.eval = ρ at *
                go_simp
              · exact (if_pos rfl)
            · intro a W own hfor huse hap hmi hF K hK
              have e23 : a.eval (.tmp 23) = .bool false := huse 3 (by kernel_rfl)
              have e27 : a.eval (.tmp 27) = .bool false := huse 7 (by kernel_rfl)
              have ec33 : a.eval (.const (.bool true)) = .bool true := rfl
              refine op_val (.bool false) W rfl ?_ (hK _ _ (post_pure ?_))
              · clear hfor huse hap hmi hK hF
                generalize a.eval = ρ at *
                go_simp
              · exact (if_pos rfl)
            · intro a W own hfor huse hap hmi hF K hK
              have e28 : a.eval (.tmp 28) = .bool false := huse 8 (by kernel_rfl)
              refine op_val (.bool false) W rfl ?_ (hK _ _ (post_pure ?_))
              · clear hfor huse hap hmi hK hF
                generalize a.eval = ρ at *
                go_simp
              · exact (if_pos rfl)
            · intro a W own hfor huse hap hmi hF K hK
              have e3 : a.eval (.tmp 3) = .pointer (some ⟨w.heap.size, 0, none⟩) := hfor 3 (by kernel_rfl)
              have e29 : a.eval (.tmp 29) = .bool false := huse 9 (by kernel_rfl)
              refine gop_val (.pointer (some ⟨w.heap.size, 1, none⟩)) W (want_yes (j := 9) (b := false) rfl (yield_of (t := 29) rfl rfl e29)) ?_ (hK _ _ (post_pure ?_))
              · clear hfor huse hap hmi hK hF
                generalize a.eval = ρ at *
                go_simp
              · exact (if_pos rfl)
            · intro a W own hfor huse hap hmi hF K hK
              have e30 : a.eval (.tmp 30) = .pointer (some ⟨w.heap.size, 1, none⟩) := huse 10 (by kernel_rfl)
              have e29 : a.eval (.tmp 29) = .bool false := huse 9 (by kernel_rfl)
              have c1 := foot_cell hF (fun h => h) P1.out
              refine gop_val (.slice Au t.length cu) W (want_yes (j := 9) (b := false) rfl (yield_of (t := 29) rfl rfl e29)) ?_ (hK _ _ (post_pure ?_))
              · clear hfor huse hap hmi hK hF
                generalize a.eval = ρ at *
                go_simp
              · exact (if_pos rfl)
            · intro a W own hfor huse hap hmi hF K hK
              have e3 : a.eval (.tmp 3) = .pointer (some ⟨w.heap.size, 0, none⟩) := hfor 3 (by kernel_rfl)
              have e29 : a.eval (.tmp 29) = .bool false := huse 9 (by kernel_rfl)
              refine gop_val (.pointer (some ⟨w.heap.size, 1, none⟩)) W (want_yes (j := 9) (b := false) rfl (yield_of (t := 29) rfl rfl e29)) ?_ (hK _ _ (post_pure ?_))
              · clear hfor huse hap hmi hK hF
                generalize a.eval = ρ at *
                go_simp
              · exact (if_pos rfl)
            · intro a W own hfor huse hap hmi hF K hK
              have e32 : a.eval (.tmp 32) = .pointer (some ⟨w.heap.size, 1, none⟩) := huse 12 (by kernel_rfl)
              have e29 : a.eval (.tmp 29) = .bool false := huse 9 (by kernel_rfl)
              have c1 := foot_cell hF (fun h => h) P1.out
              refine gop_val (.slice Au t.length cu) W (want_yes (j := 9) (b := false) rfl (yield_of (t := 29) rfl rfl e29)) ?_ (hK _ _ (post_pure ?_))
              · clear hfor huse hap hmi hK hF
                generalize a.eval = ρ at *
                go_simp
              · exact (if_pos rfl)
            · intro a W own hfor huse hap hmi hF K hK
              have e29 : a.eval (.tmp 29) = .bool false := huse 9 (by kernel_rfl)
              have e33 : a.eval (.tmp 33) = .slice Au t.length cu := huse 13 (by kernel_rfl)
              have hvt := foot_V hF (fun _ _ h => h) HTW.out (by decide)
              have efn : a.eval (.func 68) = .func (.func 68) #[] #[] := rfl
              refine gop_call (f := 68) (args := #[.slice Au t.length cu]) (fun v w1 => kCell.R w1 (fun k => W.heap.size ≤ k) v (canon t) ∧ Below W.heap.size W w1) (want_yes (j := 9) (b := false) rfl (yield_of (t := 29) rfl rfl e29)) ?_ ?_ (fun v w1 h => ?_)
              · clear hfor huse hap hmi hK hF
                generalize a.eval = ρ at *
                go_simp
              · exact (TrmCanon_i _ t ok W hvt).mono (by rintro e w1 ⟨u, rfl, h1, h2⟩; exact ⟨_, rfl, h1, h2⟩)
              · obtain ⟨h1, h2⟩ := h
                exact hK _ _ (post_new h2 (by show kCell.R _ _ (if _ then _ else _) (canon t); rw [if_pos rfl]; exact Kd.R_mono h1 (fun k h3 h4 => ⟨h3, h4⟩)))
            · intro a W own hfor huse hap hmi hF K hK
              have e31 : a.eval (.tmp 31) = .slice Au t.length cu := huse 11 (by kernel_rfl)
              have e29 : a.eval (.tmp 29) = .bool false := huse 9 (by kernel_rfl)
              have hvt := foot_V hF (fun _ _ h => h) HTW.out (by decide)
              have r14 : kCell.R W (own 14) (a.eval (.tmp 34)) (canon t) := huse 14 (by kernel_rfl)
              obtain ⟨A14, n14, e34, -, -⟩ := Kd.R_form r14
              rw [e34] at r14
              have efn : a.eval (.func 67) = .func (.func 67) #[] #[] := rfl
              refine gop_call (f := 67) (args := #[.slice Au t.length cu, .slice A14 (canon t).length n14]) (fun v w1 => v = .bool false ∧ Below W.heap.size W w1) (want_yes (j := 9) (b := false) rfl (yield_of (t := 29) rfl rfl e29)) ?_ ?_ (fun v w1 h => ?_)
              · clear hfor huse hap hmi hK hF
                generalize a.eval = ρ at *
                go_simp
              · exact (TrmSame_b hvt (Kd.R_V r14) HCQ.out).mono (by rintro e w1 ⟨rfl, h2⟩; exact ⟨_, rfl, rfl, h2⟩)
              · obtain ⟨rfl, h2⟩ := h
                exact hK _ _ (post_new h2 (if_pos rfl))
            · intro a W own hfor huse hap hmi hF K hK
              have e35 : a.eval (.tmp 35) = .bool false := huse 15 (by kernel_rfl)
              have e29 : a.eval (.tmp 29) = .bool false := huse 9 (by kernel_rfl)
              refine gop_val (.bool true) W (want_yes (j := 9) (b := false) rfl (yield_of (t := 29) rfl rfl e29)) ?_ (hK _ _ (post_pure ?_))
              · clear hfor huse hap hmi hK hF
                generalize a.eval = ρ at *
                go_simp
              · exact (if_pos rfl)
            · intro a W own hfor huse hap hmi hF K hK
              have e29 : a.eval (.tmp 29) = .bool false := huse 9 (by kernel_rfl)
              have e36 : a.eval (.tmp 36) = .bool true := huse 16 (by kernel_rfl)
              have ec33 : a.eval (.const (.bool true)) = .bool true := rfl
              refine op_val (.bool true) W rfl ?_ (hK _ _ (post_pure ?_))
              · clear hfor huse hap hmi hK hF
                generalize a.eval = ρ at *
                go_simp
              · exact (if_pos rfl)
            · intro a W own hfor huse hap hmi hF K hK
              have e37 : a.eval (.tmp 37) = .bool true := huse 17 (by kernel_rfl)
              refine op_val (.bool true) W rfl ?_ (hK _ _ (post_pure ?_))
              · clear hfor huse hap hmi hK hF
                generalize a.eval = ρ at *
                go_simp
              · exact (if_pos rfl)
            intro a' W own hf
            have s1 := hf.st.size
            have s2 := hf.st.rest
            have s3 := fun t ht => hf.st.kept t ht
            revert hf
            revert a'
            refine lay_intro (df := []) [true, true, true, true, true, true, true, true, true, true, true, true, true, true, true, true, true, true, true, false, false, false, false, false, false, false, false, false, false, false, false, false, false, false, false, false, false, false, true, true, true, true, true, true, true, true, true, true, true, true] (by kernel_rfl) rfl ?_
            intro x37 x36 x35 x34 x33 x32 x31 x30 x29 x28 x27 x26 x25 x24 x23 x22 x21 x20 x19 hf
            have e19 : x19 = .bool true := hf.at 18 (fun val _ _ => val 19 = .bool true) rfl (by kernel_rfl)
            subst e19
            have HF := Sec.mk hf.st.foot
            have BF := Sec.mk (HF.out.below (belD B1.out) (fun k h => h.elim))
            clear hf HF
            go_wp2
            go_ret
            exact ⟨rb HE.out.symm, BB.out _ BF.out⟩
          | true =>
            have hc' : decide (canon t = t) = true := decide_eq_true (of_decide_eq_true hc).symm
            have HSH := Sec.mk (shift_ok HQ.out (trmOk_len ht).2)
            have HE : Sec (outOk top st t = sameU t (shifted top t.length)) := ⟨by unfold outOk; rw [HQ.out, if_pos H2.out, ht, hc', sameU_swap HSH.out ht]; rfl⟩
            have HCQ := Sec.mk hc
            clear ht hc hc'
            go_enter Tryz.func53, Tryz.ntmps53
            go_wp2_with (first | (go_at_call 51; refine (isQuestion_i _ top ok _ (HV.out _ (Below.refl _ _))).mono ?_; rw [HQ.out]; rintro e wr ⟨rfl, hb⟩; have B1 := Sec.mk hb; obtain ⟨p0, p1⟩ := HW.out _ hb; have P0 := Sec.mk p0; have P1 := Sec.mk p1; have HTW := Sec.mk (HT.out _ hb); have HVW := Sec.mk (HV.out _ hb); clear hb) | (go_at_call 52; refine (in_c _ _ _ _).mono ?_; rw [HI.out]; rintro e w' ⟨rfl, rfl⟩))
            clear p0 p1
            refine wp_region_lists [[20], [21], [22], [23], [24], [25], [26], [27], [28], [29], [30], [31], [32], [33], [34], [35], [36], [37], [19]]
              [fun val _ _ => val 20 = .pointer (some ⟨w.heap.size, 0, none⟩),
                fun val _ _ => val 21 = .int .i64 st,
                fun val _ _ => val 22 = .bool false,
                fun val _ _ => val 23 = .bool false,
                fun val _ _ => val 24 = .pointer (some ⟨w.heap.size, 1, none⟩),
                fun val _ _ => val 25 = .slice Au t.length cu,
                fun val _ _ => val 26 = .bool true,
                fun val _ _ => val 27 = .bool false,
                fun val _ _ => val 28 = .bool false,
                fun val _ _ => val 29 = .bool false,
                fun val _ _ => val 30 = .pointer (some ⟨w.heap.size, 1, none⟩),
                fun val _ _ => val 31 = .slice Au t.length cu,
                fun val _ _ => val 32 = .pointer (some ⟨w.heap.size, 1, none⟩),
                fun val _ _ => val 33 = .slice Au t.length cu,
                onR kCell 34 (canon t),
                fun val _ _ => val 35 = .bool true,
                fun val _ _ => val 36 = .bool false,
                fun val _ _ => val 37 = .bool false,
                fun val _ _ => val 19 = .bool false]
              [[], [], [], [], [], [], [], [], [], [], [], [], [], [], [], [], [], [], []] 0 (fun _ => False) (fun _ _ => False) (by kernel_rfl) ⟨by kernel_rfl, by kernel_rfl, by kernel_rfl, by kernel_rfl, by kernel_rfl⟩
              (.cons (stab_val 20 (fun v => v = .pointer (some ⟨w.heap.size, 0, none⟩))) (.cons (stab_val 21 (fun v => v = .int .i64 st)) (.cons (stab_val 22 (fun v => v = .bool false)) (.cons (stab_val 23 (fun v => v = .bool false)) (.cons (stab_val 24 (fun v => v = .pointer (some ⟨w.heap.size, 1, none⟩))) (.cons (stab_val 25 (fun v => v = .slice Au t.length cu)) (.cons (stab_val 26 (fun v => v = .bool true)) (.cons (stab_val 27 (fun v => v = .bool false)) (.cons (stab_val 28 (fun v => v = .bool false)) (.cons (stab_val 29 (fun v => v = .bool false)) (.cons (stab_val 30 (fun v => v = .pointer (some ⟨w.heap.size, 1, none⟩))) (.cons (stab_val 31 (fun v => v = .slice Au t.length cu)) (.cons (stab_val 32 (fun v => v = .pointer (some ⟨w.heap.size, 1, none⟩))) (.cons (stab_val 33 (fun v => v = .slice Au t.length cu)) (.cons (stab_R kCell 34 (canon t)) (.cons (stab_val 35 (fun v => v = .bool true)) (.cons (stab_val 36 (fun v => v = .bool false)) (.cons (stab_val 37 (fun v => v = .bool false)) (.cons (stab_val 19 (fun v => v = .bool false)) .nil)))))))))))))))))))
              (fun i j k h1 h2 => h1.elim) (fun i k h => h.elim) (fun i h1 h2 => by simp at h1 h2; omega) (.cons ?_ (.cons ?_ (.cons ?_ (.cons ?_ (.cons ?_ (.cons ?_ (.cons ?_ (.cons ?_ (.cons ?_ (.cons ?_ (.cons ?_ (.cons ?_ (.cons ?_ (.cons ?_ (.cons ?_ (.cons ?_ (.cons ?_ (.cons ?_ (.cons ?_ .nil))))))))))))))))))) ?_
            · intro a W own hfor huse hap hmi hF K hK
              have e3 : a.eval (.tmp 3) = .pointer (some ⟨w.heap.size, 0, none⟩) := hfor 3 (by kernel_rfl)
              refine op_val (.pointer (some ⟨w.heap.size, 0, none⟩)) W rfl ?_ (hK _ _ (post_pure ?_))
              · clear hfor huse hap hmi hK hF
                generalize a.eval = ρ at *
                go_simp
              · exact (if_pos rfl)
            · intro a W own hfor huse hap hmi hF K hK
              have e20 : a.eval (.tmp 20) = .pointer (some ⟨w.heap.size, 0, none⟩) := huse 0 (by kernel_rfl)
              have c0 := foot_cell hF (fun h => h) P0.out
              refine op_val (.int .i64 st) W rfl ?_ (hK _ _ (post_pure ?_))
              · clear hfor huse hap hmi hK hF
                generalize a.eval = ρ at *
                go_simp
              · exact (if_pos rfl)
            · intro a W own hfor huse hap hmi hF K hK
              have e21 : a.eval (.tmp 21) = .int .i64 st := huse 1 (by kernel_rfl)
              have ec23 : a.eval (.const (.int .i64 2)) = .int .i64 2 := rfl
              have d2 := D2.out
              refine op_val (.bool false) W rfl ?_ (hK _ _ (post_pure ?_))
              · clear hfor huse hap hmi hK hF
                generalize a.eval = ρ at *
                go_simp
              · exact (if_pos rfl)
            · intro a W own hfor huse hap hmi hF K hK
              have e22 : a.eval (.tmp 22) = .bool false := huse 2 (by kernel_rfl)
              refine op_val (.bool false) W rfl ?_ (hK _ _ (post_pure ?_))
              · clear hfor huse hap hmi hK hF
                generalize a.eval = ρ at *
                go_simp
              · exact (if_pos rfl)
            · intro a W own hfor huse hap hmi hF K hK
              have e3 : a.eval (.tmp 3) = .pointer (some ⟨w.heap.size, 0, none⟩) := hfor 3 (by kernel_rfl)
              have e23 : a.eval (.tmp 23) = .bool false := huse 3 (by kernel_rfl)
              refine gop_val (.pointer (some ⟨w.heap.size, 1, none⟩)) W (want_yes (j := 3) (b := false) rfl (yield_of (t := 23) rfl rfl e23)) ?_ (hK _ _ (post_pure ?_))
              · clear hfor huse hap hmi hK hF
                generalize a.eval = ρ at *
                go_simp
              · exact (if_pos rfl)
            · intro a W own hfor huse hap hmi hF K hK
              have e24 : a.eval (.tmp 24) = .pointer (some ⟨w.heap.size, 1, none⟩) := huse 4 (by kernel_rfl)
              have e23 : a.eval (.tmp 23) = .bool false := huse 3 (by kernel_rfl)
              have c1 := foot_cell hF (fun h => h) P1.out
              refine gop_val (.slice Au t.length cu) W (want_yes (j := 3) (b := false) rfl (yield_of (t := 23) rfl rfl e23)) ?_ (hK _ _ (post_pure ?_))
              · clear hfor huse hap hmi hK hF
                generalize a.eval = ρ at *
                go_simp
              · exact (if_pos rfl)
            · intro a W own hfor huse hap hmi hF K hK
              have e25 : a.eval (.tmp 25) = .slice Au t.length cu := huse 5 (by kernel_rfl)
              have e23 : a.eval (.tmp 23) = .bool false := huse 3 (by kernel_rfl)
              have hvt := foot_V hF (fun _ _ h => h) HTW.out (by decide)
              have efn : a.eval (.func 54) = .func (.func 54) #[] #[] := rfl
              refine gop_call (f := 54) (args := #[.slice Au t.length cu]) (fun v w1 => v = .bool true ∧ Below W.heap.size W w1) (want_yes (j := 3) (b := false) rfl (yield_of (t := 23) rfl rfl e23)) ?_ ?_ (fun v w1 h => ?_)
              · clear hfor huse hap hmi hK hF
                generalize a.eval = ρ at *
                go_simp
              · exact (TrmOk_b hvt HTT.out).mono (by rintro e w1 ⟨rfl, h2⟩; exact ⟨_, rfl, rfl, h2⟩)
              · obtain ⟨rfl, h2⟩ := h
                exact hK _ _ (post_new h2 (if_pos rfl))
            · intro a W own hfor huse hap hmi hF K hK
              have e26 : a.eval (.tmp 26) = .bool true := huse 6 (by kernel_rfl)
              have e23 : a.eval (.tmp 23) = .bool false := huse 3 (by kernel_rfl)
              refine gop_val (.bool false) W (want_yes (j := 3) (b := false) rfl (yield_of (t := 23) rfl rfl e23)) ?_ (hK _ _ (post_pure ?_))
              · clear hfor huse hap hmi hK hF
                generalize a.eval = ρ at *
                go_simp
              · exact (if_pos rfl)
            · intro a W own hfor huse hap hmi hF K hK
              have e23 : a.eval (.tmp 23) = .bool false := huse 3 (by kernel_rfl)
              have e27 : a.eval (.tmp 27) = .bool false := huse 7 (by kernel_rfl)
              have ec33 : a.eval (.const (.bool true)) = .bool true := rfl
              refine op_val (.bool false) W rfl ?_ (hK _ _ (post_pure ?_))
              · clear hfor huse hap hmi hK hF
                generalize a.eval = ρ at *
                go_simp
              · exact (if_pos rfl)
            · intro a W own hfor huse hap hmi hF K hK
              have e28 : a.eval (.tmp 28) = .bool false := huse 8 (by kernel_rfl)
              refine op_val (.bool false) W rfl ?_ (hK _ _ (post_pure ?_))
              · clear hfor huse hap hmi hK hF
                generalize a.eval = ρ at *
                go_simp
              · exact (if_pos rfl)
            · intro a W own hfor huse hap hmi hF K hK
              have e3 : a.eval (.tmp 3) = .pointer (some ⟨w.heap.size, 0, none⟩) := hfor 3 (by kernel_rfl)
              have e29 : a.eval (.tmp 29) = .bool false := huse 9 (by kernel_rfl)
              refine gop_val (.pointer (some ⟨w.heap.size, 1, none⟩)) W (want_yes (j := 9) (b := false) rfl (yield_of (t := 29) rfl rfl e29)) ?_ (hK _ _ (post_pure ?_))
              · clear hfor huse hap hmi hK hF
                generalize a.eval = ρ at *
                go_simp
              · exact (if_pos rfl)
            · intro a W own hfor huse hap hmi hF K hK
              have e30 : a.eval (.tmp 30) = .pointer (some ⟨w.heap.size, 1, none⟩) := huse 10 (by kernel_rfl)
              have e29 : a.eval (.tmp 29) = .bool false := huse 9 (by kernel_rfl)
              have c1 := foot_cell hF (fun h => h) P1.out
              refine gop_val (.slice Au t.length cu) W (want_yes (j := 9) (b := false) rfl (yield_of (t := 29) rfl rfl e29)) ?_ (hK _ _ (post_pure ?_))
              · clear hfor huse hap hmi hK hF
                generalize a.eval = ρ at *
                go_simp
              · exact (if_pos rfl)
            · intro a W own hfor huse hap hmi hF K hK
              have e3 : a.eval (.tmp 3) = .pointer (some ⟨w.heap.size, 0, none⟩) := hfor 3 (by kernel_rfl)
              have e29 : a.eval (.tmp 29) = .bool false := huse 9 (by kernel_rfl)
              refine gop_val (.pointer (some ⟨w.heap.size, 1, none⟩)) W (want_yes (j := 9) (b := false) rfl (yield_of (t := 29) rfl rfl e29)) ?_ (hK _ _ (post_pure ?_))
              · clear hfor huse hap hmi hK hF
                generalize a.eval = ρ at *
                go_simp
              · exact (if_pos rfl)
            · intro a W own hfor huse hap hmi hF K hK
              have e32 : a.eval (.tmp 32) = .pointer (some ⟨w.heap.size, 1, none⟩) := huse 12 (by kernel_rfl)
              have e29 : a.eval (.tmp 29) = .bool false := huse 9 (by kernel_rfl)
              have c1 := foot_cell hF (fun h => h) P1.out
              refine gop_val (.slice Au t.length cu) W (want_yes (j := 9) (b := false) rfl (yield_of (t := 29) rfl rfl e29)) ?_ (hK _ _ (post_pure ?_))
              · clear hfor huse hap hmi hK hF
                generalize a.eval = ρ at *
                go_simp
              · exact (if_pos rfl)
            · intro a W own hfor huse hap hmi hF K hK
              have e29 : a.eval (.tmp 29) = .bool false := huse 9 (by kernel_rfl)
              have e33 : a.eval (.tmp 33) = .slice Au t.length cu := huse 13 (by kernel_rfl)
              have hvt := foot_V hF (fun _ _ h => h) HTW.out (by decide)
              have efn : a.eval (.func 68) = .func (.func 68) #[] #[] := rfl
              refine gop_call (f := 68) (args := #[.slice Au t.length cu]) (fun v w1 => kCell.R w1 (fun k => W.heap.size ≤ k) v (canon t) ∧ Below W.heap.size W w1) (want_yes (j := 9) (b := false) rfl (yield_of (t := 29) rfl rfl e29)) ?_ ?_ (fun v w1 h => ?_)
              · clear hfor huse hap hmi hK hF
                generalize a.eval = ρ at *
                go_simp
              · exact (TrmCanon_i _ t ok W hvt).mono (by rintro e w1 ⟨u, rfl, h1, h2⟩; exact ⟨_, rfl, h1, h2⟩)
              · obtain ⟨h1, h2⟩ := h
                exact hK _ _ (post_new h2 (by show kCell.R _ _ (if _ then _ else _) (canon t); rw [if_pos rfl]; exact Kd.R_mono h1 (fun k h3 h4 => ⟨h3, h4⟩)))
            · intro a W own hfor huse hap hmi hF K hK
              have e31 : a.eval (.tmp 31) = .slice Au t.length cu := huse 11 (by kernel_rfl)
              have e29 : a.eval (.tmp 29) = .bool false := huse 9 (by kernel_rfl)
              have hvt := foot_V hF (fun _ _ h => h) HTW.out (by decide)
              have r14 : kCell.R W (own 14) (a.eval (.tmp 34)) (canon t) := huse 14 (by kernel_rfl)
              obtain ⟨A14, n14, e34, -, -⟩ := Kd.R_form r14
              rw [e34] at r14
              have efn : a.eval (.func 67) = .func (.func 67) #[] #[] := rfl
              refine gop_call (f := 67) (args := #[.slice Au t.length cu, .slice A14 (canon t).length n14]) (fun v w1 => v = .bool true ∧ Below W.heap.size W w1) (want_yes (j := 9) (b := false) rfl (yield_of (t := 29) rfl rfl e29)) ?_ ?_ (fun v w1 h => ?_)
              · clear hfor huse hap hmi hK hF
                generalize a.eval = ρ at *
                go_simp
              · exact (TrmSame_b hvt (Kd.R_V r14) HCQ.out).mono (by rintro e w1 ⟨rfl, h2⟩; exact ⟨_, rfl, rfl, h2⟩)
              · obtain ⟨rfl, h2⟩ := h
                exact hK _ _ (post_new h2 (if_pos rfl))
            · intro a W own hfor huse hap hmi hF K hK
              have e35 : a.eval (.tmp 35) = .bool true := huse 15 (by kernel_rfl)
              have e29 : a.eval (.tmp 29) = .bool false := huse 9 (by kernel_rfl)
              refine gop_val (.bool false) W (want_yes (j := 9) (b := false) rfl (yield_of (t := 29) rfl rfl e29)) ?_ (hK _ _ (post_pure ?_))
              · clear hfor huse hap hmi hK hF
                generalize a.eval = ρ at *
                go_simp
              · exact (if_pos rfl)
            · intro a W own hfor huse hap hmi hF K hK
              have e29 : a.eval (.tmp 29) = .bool false := huse 9 (by kernel_rfl)
              have e36 : a.eval (.tmp 36) = .bool false := huse 16 (by kernel_rfl)
              have ec33 : a.eval (.const (.bool true)) = .bool true := rfl
              refine op_val (.bool false) W rfl ?_ (hK _ _ (post_pure ?_))
              · clear hfor huse hap hmi hK hF
                generalize a.eval = ρ at *
                go_simp
              · exact (if_pos rfl)
            · intro a W own hfor huse hap hmi hF K hK
              have e37 : a.eval (.tmp 37) = .bool false := huse 17 (by kernel_rfl)
              refine op_val (.bool false) W rfl ?_ (hK _ _ (post_pure ?_))
              · clear hfor huse hap hmi hK hF
                generalize a.eval = ρ at *
                go_simp
              · exact (if_pos rfl)
            intro a' W own hf
            have s1 := hf.st.size
            have s2 := hf.st.rest
            have s3 := fun t ht => hf.st.kept t ht
            revert hf
            revert a'
            refine lay_intro (df := []) [true, true, true, true, true, true, true, true, true, true, true, true, true, true, true, true, true, true, true, false, false, false, false, false, false, false, false, false, false, false, false, false, false, false, false, false, false, false, true, true, true, true, true, true, true, true, true, true, true, true] (by kernel_rfl) rfl ?_
            intro x37 x36 x35 x34 x33 x32 x31 x30 x29 x28 x27 x26 x25 x24 x23 x22 x21 x20 x19 hf
            have e19 : x19 = .bool false := hf.at 18 (fun val _ _ => val 19 = .bool false) rfl (by kernel_rfl)
            subst e19
            have HF := Sec.mk hf.st.foot
            have BF := Sec.mk (HF.out.below (belD B1.out) (fun k h => h.elim))
            clear hf HF
            go_wp2
            obtain ⟨p0, p1⟩ := HW.out _ BF.out
            have P0 := Sec.mk p0
            have P1 := Sec.mk p1
            have HTW := Sec.mk (HT.out _ BF.out)
            have HVW := Sec.mk (HV.out _ BF.out)
            have B1 := BF
            clear p0 p1
            refine wp_region_lists [[39], [40], [41], [42], [43], [44], [45], [46], [38], [47], [48], [5], [6]]
              [fun val _ _ => val 39 = .pointer (some ⟨w.heap.size, 1, none⟩),
                fun val _ _ => val 40 = .slice Au t.length cu,
                fun val _ _ => val 41 = .slice Av top.length cv,
                fun val _ _ => val 42 = .pointer (some ⟨w.heap.size, 1, none⟩),
                fun val _ _ => val 43 = .slice Au t.length cu,
                fun val _ _ => val 44 = .int .i64 t.length,
                onR kCell 45 (shifted top t.length),
                fun val _ _ => ∃ x, val 46 = .tuple #[x, .bool (sameU t (shifted top t.length))],
                fun val _ _ => ∃ x, val 38 = .tuple #[x, .bool (sameU t (shifted top t.length))],
                fun _ _ _ => True,
                fun val _ _ => val 48 = .bool (sameU t (shifted top t.length)),
                fun _ _ _ => True,
                fun val _ _ => val 6 = .bool (sameU t (shifted top t.length))]
              [[], [], [], [], [], [], [], [], [], [], [], [], []] 0 (fun _ => False) (fun _ _ => False) (by kernel_rfl) ⟨by kernel_rfl, by kernel_rfl, by kernel_rfl, by kernel_rfl, by kernel_rfl⟩
              (.cons (stab_val 39 (fun v => v = .pointer (some ⟨w.heap.size, 1, none⟩))) (.cons (stab_val 40 (fun v => v = .slice Au t.length cu)) (.cons (stab_val 41 (fun v => v = .slice Av top.length cv)) (.cons (stab_val 42 (fun v => v = .pointer (some ⟨w.heap.size, 1, none⟩))) (.cons (stab_val 43 (fun v => v = .slice Au t.length cu)) (.cons (stab_val 44 (fun v => v = .int .i64 t.length)) (.cons (stab_R kCell 45 (shifted top t.length)) (.cons (stab_val 46 (fun v => ∃ x, v = .tuple #[x, .bool (sameU t (shifted top t.length))])) (.cons (stab_val 38 (fun v => ∃ x, v = .tuple #[x, .bool (sameU t (shifted top t.length))])) (.cons (stab_val 47 (fun _ => True)) (.cons (stab_val 48 (fun v => v = .bool (sameU t (shifted top t.length)))) (.cons (stab_val 5 (fun _ => True)) (.cons (stab_val 6 (fun v => v = .bool (sameU t (shifted top t.length)))) .nil)))))))))))))
              (fun i j k h1 h2 => h1.elim) (fun i k h => h.elim) (fun i h1 h2 => by simp at h1 h2; omega) (.cons ?_ (.cons ?_ (.cons ?_ (.cons ?_ (.cons ?_ (.cons ?_ (.cons ?_ (.cons ?_ (.cons ?_ (.cons ?_ (.cons ?_ (.cons ?_ (.cons ?_ .nil))))))))))))) ?_
            · intro a W own hfor huse hap hmi hF K hK
              have e3 : a.eval (.tmp 3) = .pointer (some ⟨w.heap.size, 0, none⟩) := hfor 3 (by kernel_rfl)
              refine op_val (.pointer (some ⟨w.heap.size, 1, none⟩)) W rfl ?_ (hK _ _ (post_pure ?_))
              · clear hfor huse hap hmi hK hF
                generalize a.eval = ρ at *
                go_simp
              · exact (if_pos rfl)
            · intro a W own hfor huse hap hmi hF K hK
              have e39 : a.eval (.tmp 39) = .pointer (some ⟨w.heap.size, 1, none⟩) := huse 0 (by kernel_rfl)
              have c1 := foot_cell hF (fun h => h) P1.out
              refine op_val (.slice Au t.length cu) W rfl ?_ (hK _ _ (post_pure ?_))
              · clear hfor huse hap hmi hK hF
                generalize a.eval = ρ at *
                go_simp
              · exact (if_pos rfl)
            · intro a W own hfor huse hap hmi hF K hK
              have e0 : a.eval (.tmp 0) = .slice Av top.length cv := hfor 0 (by kernel_rfl)
              refine op_val (.slice Av top.length cv) W rfl ?_ (hK _ _ (post_pure ?_))
              · clear hfor huse hap hmi hK hF
                generalize a.eval = ρ at *
                go_simp
              · exact (if_pos rfl)
            · intro a W own hfor huse hap hmi hF K hK
              have e3 : a.eval (.tmp 3) = .pointer (some ⟨w.heap.size, 0, none⟩) := hfor 3 (by kernel_rfl)
              refine op_val (.pointer (some ⟨w.heap.size, 1, none⟩)) W rfl ?_ (hK _ _ (post_pure ?_))
              · clear hfor huse hap hmi hK hF
                generalize a.eval = ρ at *
                go_simp
              · exact (if_pos rfl)
            · intro a W own hfor huse hap hmi hF K hK
              have e42 : a.eval (.tmp 42) = .pointer (some ⟨w.heap.size, 1, none⟩) := huse 3 (by kernel_rfl)
              have c1 := foot_cell hF (fun h => h) P1.out
              refine op_val (.slice Au t.length cu) W rfl ?_ (hK _ _ (post_pure ?_))
              · clear hfor huse hap hmi hK hF
                generalize a.eval = ρ at *
                go_simp
              · exact (if_pos rfl)
            · intro a W own hfor huse hap hmi hF K hK
              have e43 : a.eval (.tmp 43) = .slice Au t.length cu := huse 4 (by kernel_rfl)
              refine op_val (.int .i64 t.length) W rfl ?_ (hK _ _ (post_pure ?_))
              · clear hfor huse hap hmi hK hF
                generalize a.eval = ρ at *
                go_simp
              · exact (if_pos rfl)
            · intro a W own hfor huse hap hmi hF K hK
              have e41 : a.eval (.tmp 41) = .slice Av top.length cv := huse 2 (by kernel_rfl)
              have e44 : a.eval (.tmp 44) = .int .i64 t.length := huse 5 (by kernel_rfl)
              have hvp := foot_V hF (fun _ _ h => h) HVW.out (by decide)
              have efn : a.eval (.func 70) = .func (.func 70) #[] #[] := rfl
              refine op_call (f := 70) (args := #[.slice Av top.length cv, .int .i64 t.length]) (fun v w1 => kCell.R w1 (fun k => W.heap.size ≤ k) v (shifted top t.length) ∧ Below W.heap.size W w1) rfl ?_ ?_ (fun v w1 h => ?_)
              · clear hfor huse hap hmi hK hF
                generalize a.eval = ρ at *
                go_simp
              · exact (shifted_i _ top t.length ok W hvp).mono (by rintro e w1 ⟨u, rfl, h1, h2⟩; exact ⟨_, rfl, h1, h2⟩)
              · obtain ⟨h1, h2⟩ := h
                exact hK _ _ (post_new h2 (by show kCell.R _ _ (if _ then _ else _) (shifted top t.length); rw [if_pos rfl]; exact Kd.R_mono h1 (fun k h3 h4 => ⟨h3, h4⟩)))
            · intro a W own hfor huse hap hmi hF K hK
              have e40 : a.eval (.tmp 40) = .slice Au t.length cu := huse 1 (by kernel_rfl)
              have hvt := foot_V hF (fun _ _ h => h) HTW.out (by decide)
              have r6 : kCell.R W (own 6) (a.eval (.tmp 45)) (shifted top t.length) := huse 6 (by kernel_rfl)
              obtain ⟨A6, n6, e45, -, -⟩ := Kd.R_form r6
              rw [e45] at r6
              have efn : a.eval (.func 69) = .func (.func 69) #[] #[] := rfl
              have ec20 : a.eval (.const (.slice none 0 0)) = .slice none 0 0 := rfl
              refine op_call (f := 69) (args := #[.slice none 0 0, .slice Au t.length cu, .slice A6 (shifted top t.length).length n6]) (fun v w1 => (∃ x, v = .tuple #[x, .bool (sameU t (shifted top t.length))]) ∧ Below W.heap.size W w1) rfl ?_ ?_ (fun v w1 h => ?_)
              · clear hfor huse hap hmi hK hF
                generalize a.eval = ρ at *
                go_simp
              · exact (unify0 hvt (Kd.R_V r6) HTT.out HSH.out).mono (by rintro e w1 ⟨x, rfl, h2⟩; exact ⟨_, rfl, ⟨x, rfl⟩, h2⟩)
              · obtain ⟨⟨x, rfl⟩, h2⟩ := h
                exact hK _ _ (post_new h2 ⟨x, if_pos rfl⟩)
            · intro a W own hfor huse hap hmi hF K hK
              obtain ⟨x46, e46⟩ : ∃ x, a.eval (.tmp 46) = .tuple #[x, .bool (sameU t (shifted top t.length))] := huse 7 (by kernel_rfl)
              refine op_val (.tuple #[x46, .bool (sameU t (shifted top t.length))]) W rfl ?_ (hK _ _ (post_pure ⟨x46, if_pos rfl⟩))
              · clear hfor huse hap hmi hK hF
                generalize a.eval = ρ at *
                go_simp
            · intro a W own hfor huse hap hmi hF K hK
              obtain ⟨x38, e38⟩ : ∃ x, a.eval (.tmp 38) = .tuple #[x, .bool (sameU t (shifted top t.length))] := huse 8 (by kernel_rfl)
              refine op_val x38 W rfl ?_ (hK _ _ (post_pure trivial))
              · clear hfor huse hap hmi hK hF
                generalize a.eval = ρ at *
                go_simp
            · intro a W own hfor huse hap hmi hF K hK
              obtain ⟨x38, e38⟩ : ∃ x, a.eval (.tmp 38) = .tuple #[x, .bool (sameU t (shifted top t.length))] := huse 8 (by kernel_rfl)
              refine op_val (.bool (sameU t (shifted top t.length))) W rfl ?_ (hK _ _ (post_pure (if_pos rfl)))
              · clear hfor huse hap hmi hK hF
                generalize a.eval = ρ at *
                go_simp
            · intro a W own hfor huse hap hmi hF K hK
              refine op_val (a.eval (.tmp 47)) W rfl ?_ (hK _ _ (post_pure trivial))
              · rfl
            · intro a W own hfor huse hap hmi hF K hK
              have e48 : a.eval (.tmp 48) = .bool (sameU t (shifted top t.length)) := huse 10 (by kernel_rfl)
              refine op_val (.bool (sameU t (shifted top t.length))) W rfl ?_ (hK _ _ (post_pure ?_))
              · clear hfor huse hap hmi hK hF
                generalize a.eval = ρ at *
                go_simp
              · exact (if_pos rfl)
            intro a' W own hf
            have s1 := hf.st.size
            have s2 := hf.st.rest
            have s3 := fun t ht => hf.st.kept t ht
            revert hf
            revert a'
            refine lay_intro (df := []) [true, true, true, true, true, false, false, true, true, true, true, true, true, true, true, true, true, true, true, true, true, true, true, true, true, true, true, true, true, true, true, true, true, true, true, true, true, true, false, false, false, false, false, false, false, false, false, false, false, true] (by kernel_rfl) rfl ?_
            intro x48 x47 x46 x45 x44 x43 x42 x41 x40 x39 x38 x6 x5 hf
            have e6 : x6 = .bool (sameU t (shifted top t.length)) := hf.at 12 (fun val _ _ => val 6 = .bool (sameU t (shifted top t.length))) rfl (by kernel_rfl)
            subst e6
            have HF := Sec.mk hf.st.foot
            have BF := Sec.mk (HF.out.below (belD B1.out) (fun k h => h.elim))
            clear hf HF
            go_wp2
            go_ret
            exact ⟨rb HE.out.symm, BB.out _ BF.out⟩
      · have d2 : (st != 2) = true := bne_iff_ne.2 h2
        have HE : Sec (outOk top st t = false) := ⟨by unfold outOk; rw [HQ.out, if_neg h2, HI.out]; rfl⟩
        clear h2
        go_enter Tryz.func53, Tryz.ntmps53
        go_wp2_with (first | (go_at_call 51; refine (isQuestion_i _ top ok _ (HV.out _ (Below.refl _ _))).mono ?_; rw [HQ.out]; rintro e w1 ⟨rfl, hb⟩; have B1 := Sec.mk hb; obtain ⟨p0, p1⟩ := HW.out _ hb; clear hb) | (go_at_call 52; refine (in_c _ _ _ _).mono ?_; rw [HI.out]; rintro e w' ⟨rfl, rfl⟩))
        go_quiet (fail)
        go_wp2
        go_ret
        exact ⟨rb HE.out.symm, BB.out _ (belDq B1.out)⟩
end
end Go.Proofs.YteflipoiiddkfaaGreatDoor
