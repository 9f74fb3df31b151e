/- Regions that draw their order: what each operation leaves is said once, and holds whatever the order. No program in sight; and what goes with it. -/
import Derived.Test.YtgiobpggonceeaaGreatDoorXw1
import Derived.Test.YtgiobpggonceeaaGreatDoorXw2
import Derived.OrdersHeld
import Derived.Deep.MidRow
import Derived.Great.BuildSlice
import Derived.Laws.Tables
namespace Go.Proofs.YtgiobpggonceeaaGreatDoor
section
open Go.RowKit
set_option linter.unusedVariables false
/-- What an operation leaves: said of the slots, of the blocks that are its own, and of the world. -/
structure Ass where
  sl : List Nat
  on : (Nat → Value) → (Nat → Prop) → World → Prop
/-- It stands where the named slots, its own blocks and the old blocks stand. -/
def Ass.Stab (A : Ass) (n0 : Nat) (T : Nat → Prop) : Prop := ∀ (val val' : Nat → Value) (S : Nat → Prop) (w w' : World), A.on val S w → (∀ t ∈ A.sl, val' t = val t) →
  (∀ k, S k ∨ (k < n0 ∧ ¬ T k) → k < w.heap.size → w'.heap[k]? = w.heap[k]?) → w.heap.size ≤ w'.heap.size → A.on val' S w'
def slotsOf (a : Act) (t : Nat) : Value := a.eval (.tmp t)
def depsOf (o : Oper) : List Nat := (o.after.toList.filter (Region.binds .any ·)).map (·.on)
/-- The region's own order fits the assertions: closed facts. -/
structure FitB (ops : Array Oper) (sl : Nat → List Nat) (eat : Nat → List Nat) (N m : Nat) : Prop where
  guard : ((true : Bool)) = true
  back : (List.range ops.size).all (fun i => ((ops[i]?).map (fun o => (depsOf o).all (· < i))).getD true) = true
  slot : (List.range (ops.size + N)).all (fun i => (sl i).all (fun t => (List.range ops.size).all (fun j => ((ops[j]?).map (fun o => !(o.dst == some t) || j == i || ((ops[i]?).map (fun p => (depsOf p).contains j)).getD false)).getD true))) = true
  dst : (List.range ops.size).all (fun i => ((ops[i]?).map (fun o => (o.dst.map (fun d => decide (d < m))).getD true)).getD true) = true
  eat : (List.range ops.size).all (fun i => (eat i).all (fun j => (List.range ops.size).all (fun i' => i' == i || !(eat i').contains j))) = true
/-- What op i may look at: what it waits for, and what there was, where nobody else eats it. -/
def usable (ops : Array Oper) (eat : Nat → List Nat) (N : Nat) (i j : Nat) : Bool :=
  (((ops[i]?).map (fun o => (depsOf o).contains j)).getD false || (decide (ops.size ≤ j) && decide (j < ops.size + N))) && (List.range ops.size).all (fun i' => i' == i || !(eat i').contains j || ((ops[i']?).map (fun o => (depsOf o).contains i)).getD false)
def foreign (ops : Array Oper) (t : Nat) : Bool := (List.range ops.size).all (fun j => ((ops[j]?).map (fun o => !(o.dst == some t))).getD true)
/-- No operation that may have come up ahead of op i writes slot t. -/
def keptAt (ops : Array Oper) (i t : Nat) : Bool := (List.range ops.size).all (fun j => ((ops[j]?).map (fun o => !(o.dst == some t) || (depsOf o).contains i)).getD true)
structure St (ops : Array Oper) (A : Nat → Ass) (eat : Nat → List Nat) (N : Nat) (T : Nat → Prop) (w0 : World) (a0 : Act) (L : Nat → Bool) (a : Act) (w : World) (own : Nat → Nat → Prop) : Prop where
  size : a.tmps.size = a0.tmps.size
  keep : ∀ t, (∀ j o, ops[j]? = some o → o.dst = some t → L j = false) → slotsOf a t = slotsOf a0 t
  rest : a.defers = a0.defers
  foot : Foot T w0 w
  apart : ∀ i j k, own i k → own j k → i = j
  mine : ∀ i k, own i k → (w0.heap.size ≤ k ∨ T k) ∧ k < w.heap.size
  holds : ∀ i, i < ops.size + N → L i = true → (∀ j, j < ops.size → i ∈ eat j → L j = false) → (A i).on (slotsOf a) (own i) w
  closed : ∀ i o, ops[i]? = some o → L i = true → ∀ j ∈ depsOf o, L j = true
theorem all_range {n : Nat} {p : Nat → Bool} (h : (List.range n).all p = true) {i : Nat} (hi : i < n) : p i = true := List.all_eq_true.1 h i (List.mem_range.2 hi)
theorem slots_put {a : Act} {d : Option Tmp} {v : Value} (hd : ∀ x, d = some x → x < a.tmps.size) (t : Nat) : slotsOf (a.put d v) t = if d = some t then v else slotsOf a t := by
  cases d with
  | none => simp [Act.put, slotsOf]
  | some x =>
    have hx := hd x rfl
    simp only [Act.put, slotsOf, Act.eval, Option.some.injEq]
    by_cases h : x = t
    · subst h; simp [hx]
    · rw [if_neg h]; simp [Array.getElem?_setIfInBounds_ne h]
theorem countP_lt {α : Type} {p q : α → Bool} : ∀ (l : List α), (∀ x ∈ l, q x = true → p x = true) → ∀ x ∈ l, p x = true → q x = false → l.countP q < l.countP p
  | [], _, x, hx, _, _ => by cases hx
  | y :: l, h, x, hx, h1, h2 => by
    have hle : l.countP q ≤ l.countP p := List.countP_mono_left (fun z hz => h z (List.mem_cons_of_mem _ hz))
    rw [List.countP_cons, List.countP_cons]
    rcases List.mem_cons.1 hx with rfl | hx
    · rw [if_pos h1, if_neg (by simp [h2])]; omega
    · have := countP_lt l (fun z hz => h z (List.mem_cons_of_mem _ hz)) x hx h1 h2
      have h3 := h y List.mem_cons_self
      by_cases hq : q y = true
      · rw [if_pos hq, if_pos (h3 hq)]; omega
      · rw [if_neg hq]; split <;> omega
section
variable {P : Program} {ops : Array Oper} {Q : Exit → Act → World → Prop} {A : Nat → Ass} {eat : Nat → List Nat} {N : Nat} {T : Nat → Prop} {w0 : World} {a0 : Act}
/-- What op i, come up in this state, must leave. -/
def Post (A : Nat → Ass) (eat : Nat → List Nat) (own : Nat → Nat → Prop) (i : Nat) (o : Oper) (a : Act) (w : World) (v : Value) (w' : World) : Prop :=
  ∃ S : Nat → Prop, Foot (fun k => ∃ j ∈ eat i, own j k) w w' ∧ (A i).on (fun t => if o.dst = some t then v else slotsOf a t) S w' ∧ (∀ k, S k → (∃ j ∈ eat i, own j k) ∨ (w.heap.size ≤ k ∧ k < w'.heap.size))
def StepOk (P : Program) (ops : Array Oper) (Q : Exit → Act → World → Prop) (A : Nat → Ass) (eat : Nat → List Nat) (N : Nat) (T : Nat → Prop) (w0 : World) (a0 : Act) (i : Nat) (o : Oper) : Prop :=
  ∀ (a : Act) (w : World) (own : Nat → Nat → Prop), (∀ t, keptAt ops i t = true → slotsOf a t = slotsOf a0 t) → (∀ j, usable ops eat N i j = true → (A j).on (slotsOf a) (own j) w) →
    (∀ i j k, own i k → own j k → i = j) → (∀ i k, own i k → (w0.heap.size ≤ k ∨ T k) ∧ k < w.heap.size) → Foot T w0 w →
    ∀ K : Act → World → Prop, (∀ v w', Post A eat own i o a w v w' → K (a.put o.dst v) w') → if Region.wanted o (yielded ops a.tmps) = true then Oper.wp P o a w K Q else K (a.put o.dst undef) w
theorem all_listed {listed : Array Bool} (hs : listed.size = ops.size) (hb : (List.range ops.size).all (fun i => ((ops[i]?).map (fun o => (depsOf o).all (· < i))).getD true) = true) (h : Region.ready .any ops listed = []) : ∀ i, listed.getD i true = true := by
  intro i
  induction i using Nat.strongRecOn with
  | _ i ih =>
    rcases Nat.lt_or_ge i ops.size with hi | hi
    · by_cases hl : listed.getD i true = true
      · exact hl
      · exfalso
        have hb' := all_range hb hi
        have : i ∈ Region.ready .any ops listed := mem_ready.2 ⟨by simpa using hl, ops[i], Array.getElem?_eq_getElem hi, fun e he hbd => by
          simp only [Array.getElem?_eq_getElem hi, Option.map_some, Option.getD_some] at hb'
          have hlt : e.on < i := by
            have := List.all_eq_true.1 hb' e.on (List.mem_map.2 ⟨e, List.mem_filter.2 ⟨by simpa using he, hbd⟩, rfl⟩)
            simpa using this
          have := ih e.on hlt
          have hsz : e.on < listed.size := by omega
          simpa [hsz] using this⟩
        rw [h] at this; cases this
    · simp [Array.getElem?_eq_none (show listed.size ≤ i by omega)]
theorem inv_any (hc : FitB ops (fun i => (A i).sl) eat N a0.tmps.size) (hst : ∀ i, i < ops.size + N → (A i).Stab w0.heap.size T) (hstep : ∀ i o, ops[i]? = some o → StepOk P ops Q A eat N T w0 a0 i o)
    (hend : ∀ a w own, St ops A eat N T w0 a0 (fun _ => true) a w own → Q .normal a w) :
    ∀ (fuel : Nat) (listed : Array Bool) (a : Act) (w : World) (own : Nat → Nat → Prop), listed.size = ops.size → (List.range ops.size).countP (fun i => !listed.getD i true) ≤ fuel →
      St ops A eat N T w0 a0 (fun i => listed.getD i true) a w own → wpAny P .any ops Q fuel listed a w := by
  intro fuel
  induction fuel with
  | zero =>
    intro listed a w own hs hn hI
    have hall : ∀ i, listed.getD i true = true := fun i => by
      rcases Nat.lt_or_ge i ops.size with hi | hi
      · have h0 : (List.range ops.size).countP (fun i => !listed.getD i true) = 0 := by omega
        have := List.countP_eq_zero.1 h0 i (List.mem_range.2 hi)
        simpa using this
      · simp [Array.getElem?_eq_none (show listed.size ≤ i by omega)]
    refine ⟨?_, hend a w own (by have e : (fun i => listed.getD i true) = fun _ => true := funext hall; rw [← e]; exact hI)⟩
    cases hr : Region.ready .any ops listed with
    | nil => rfl
    | cons x l =>
      have : x ∈ Region.ready .any ops listed := by rw [hr]; exact List.mem_cons_self
      have := (mem_ready.1 this).1
      rw [hall x] at this; cases this
  | succ fuel ih =>
    intro listed a w own hs hn hI
    refine ⟨fun h0 => hend a w own ?_, fun i hi => ?_⟩
    · have e : (fun i => listed.getD i true) = fun _ => true := funext (all_listed hs hc.back h0)
      rw [← e]; exact hI
    · obtain ⟨hun, o, ho, hdep⟩ := mem_ready.1 hi
      have hil : i < ops.size := (Array.getElem?_eq_some_iff.1 ho).1
      have hdep' : ∀ j ∈ depsOf o, listed.getD j true = true := fun j hj => by
        obtain ⟨e, he, rfl⟩ := List.mem_map.1 hj
        obtain ⟨he1, he2⟩ := List.mem_filter.1 he
        have h1 := hdep e (by simpa using he1) he2
        rcases Nat.lt_or_ge e.on listed.size with h' | h'
        · simpa [h'] using h1
        · simp [Array.getElem?_eq_none h'] at h1
      have hdst : ∀ x, o.dst = some x → x < a.tmps.size := fun x hx => by
        have := all_range hc.dst hil
        simp [ho, hx] at this
        rw [hI.size]; exact this
      have heat : ∀ j ∈ eat i, ∀ i', i' < ops.size → j ∈ eat i' → i' = i := fun j hj i' hi' hj' => by
        have := all_range (List.all_eq_true.1 (all_range hc.eat hil) j hj) hi'
        simpa [hj'] using this
      have hrun := hstep i o ho a w own (fun t ht => hI.keep t (fun j p hp hd => by
        cases hL : listed.getD j true with
        | false => rfl
        | true =>
          have h1 := all_range ht (Array.getElem?_eq_some_iff.1 hp).1
          simp [hp, hd] at h1
          have := hI.closed j p hp hL i h1
          rw [hun] at this; cases this)) (fun j hj => by
        unfold usable at hj
        rw [Bool.and_eq_true, Bool.or_eq_true] at hj
        obtain ⟨h1, h2⟩ := hj
        have hLj : listed.getD j true = true ∧ j < ops.size + N := by
          rcases h1 with h1 | h1
          · simp [ho] at h1
            refine ⟨hdep' j h1, ?_⟩
            have hb' := all_range hc.back hil
            simp only [ho, Option.map_some, Option.getD_some] at hb'
            have := List.all_eq_true.1 hb' j h1
            simp at this
            omega
          · rw [Bool.and_eq_true] at h1
            obtain ⟨h1, h3⟩ := h1
            simp at h1 h3
            exact ⟨by simp [Array.getElem?_eq_none (show listed.size ≤ j by omega)], h3⟩
        refine hI.holds j hLj.2 hLj.1 (fun i' hi' hj' => ?_)
        have h5 := all_range h2 hi'
        by_cases e : i' = i
        · subst e; exact hun
        · cases hL : listed.getD i' true with
          | false => rfl
          | true =>
            simp [hj', e] at h5
            cases hp : ops[i']? with
            | none => simp [hp] at h5
            | some p =>
              simp [hp] at h5
              have := hI.closed i' p hp hL i h5
              rw [hun] at this; cases this) hI.apart hI.mine hI.foot
      unfold wpOp
      rw [ho]
      simp only
      have hrun2 := hrun (wpAny P .any ops Q fuel (listed.setIfInBounds i true)) (fun v w' hP => by
        obtain ⟨S, hF, hA, hS⟩ := hP
        have hU : ∀ k, (∃ j ∈ eat i, own j k) → (w0.heap.size ≤ k ∨ T k) := fun k ⟨j, _, hj⟩ => (hI.mine j k hj).1
        have hput : ∀ t, slotsOf (a.put o.dst v) t = if o.dst = some t then v else slotsOf a t := slots_put hdst
        refine ih (listed.setIfInBounds i true) (a.put o.dst v) w' (fun j k => if j = i then S k else own j k ∧ ¬ j ∈ eat i) (by simpa using hs) ?_ ?_
        · have := countP_lt (p := fun i => !listed.getD i true) (q := fun j => !(listed.setIfInBounds i true).getD j true) (List.range ops.size) (fun x hx hq => ?_) i (List.mem_range.2 hil) (by rw [hun]; rfl) (by simp [show i < listed.size by omega])
          · omega
          · by_cases hx' : i = x
            · subst hx'; simp [show i < listed.size by omega] at hq
            · rwa [getD_set_ne true hx'] at hq
        · refine ⟨?_, ?_, ?_, ?_, ?_, ?_, ?_, ?_⟩
          · rw [← hI.size]; cases o.dst <;> simp [Act.put]
          · intro t ht
            have hn : ¬ o.dst = some t := fun hd => by
              have := ht i o ho hd
              simp [show i < listed.size by omega] at this
            rw [hput, if_neg hn]
            refine hI.keep t (fun j p hp hd => ?_)
            have := ht j p hp hd
            by_cases e : i = j
            · subst e; rw [ho] at hp; obtain rfl := Option.some.inj hp; exact (hn hd).elim
            · rwa [getD_set_ne true e] at this
          · rw [← hI.rest]; cases o.dst <;> rfl
          · refine hI.foot.trans hF (fun k hk he => ?_)
            rcases hU k he with h | h
            · omega
            · exact h
          · intro j1 j2 k h1 h2
            have key : ∀ j, j ≠ i → own j k → ¬ j ∈ eat i → S k → False := fun j hj ho1 he hS1 => by
              rcases hS k hS1 with ⟨j', hj', ho2⟩ | ⟨h3, _⟩
              · exact he (hI.apart j j' k ho1 ho2 ▸ hj')
              · have := (hI.mine j k ho1).2; omega
            by_cases e1 : j1 = i
            · by_cases e2 : j2 = i
              · rw [e1, e2]
              · simp only [if_pos e1] at h1
                simp only [if_neg e2] at h2
                exact (key j2 e2 h2.1 h2.2 h1).elim
            · by_cases e2 : j2 = i
              · simp only [if_pos e2] at h2
                simp only [if_neg e1] at h1
                exact (key j1 e1 h1.1 h1.2 h2).elim
              · simp only [if_neg e1] at h1
                simp only [if_neg e2] at h2
                exact hI.apart j1 j2 k h1.1 h2.1
          · intro j k h
            by_cases e : j = i
            · simp only [if_pos e] at h
              rcases hS k h with he | ⟨h1, h2⟩
              · obtain ⟨j', _, hj'⟩ := he
                have := hI.mine j' k hj'
                have := hF.size
                exact ⟨(hI.mine j' k hj').1, by omega⟩
              · have := hI.foot.size
                exact ⟨.inl (by omega), h2⟩
            · simp only [if_neg e] at h
              have h1 := hI.mine j k h.1
              have := hF.size
              exact ⟨h1.1, by omega⟩
          · intro j hjN hj he
            by_cases e : j = i
            · subst e
              have e2 : (fun k => if j = j then S k else own j k ∧ ¬ j ∈ eat j) = S := funext fun k => if_pos rfl
              rw [e2, show slotsOf (a.put o.dst v) = fun t => if o.dst = some t then v else slotsOf a t from funext hput]
              exact hA
            · have hj0 : listed.getD j true = true := by rwa [getD_set_ne true (Ne.symm e)] at hj
              have hne : ¬ j ∈ eat i := fun h => by
                have := he i hil h
                simp [show i < listed.size by omega] at this
              have h0 := hI.holds j hjN hj0 (fun j' hj' hm => by
                by_cases e' : j' = i
                · subst e'; exact (hne hm).elim
                · have := he j' hj' hm
                  rwa [getD_set_ne true (Ne.symm e')] at this)
              have e2 : (fun k => if j = i then S k else own j k ∧ ¬ j ∈ eat i) = own j := funext fun k => by rw [if_neg e]; exact propext ⟨fun h => h.1, fun h => ⟨h, hne⟩⟩
              rw [e2]
              refine hst j hjN _ _ _ _ _ h0 (fun t ht => ?_) (fun k hk hlt => ?_) hF.size
              · rw [hput, if_neg]
                intro hd
                have := all_range (List.all_eq_true.1 (all_range hc.slot hjN) t ht) hil
                simp [ho, hd] at this
                rcases this with h | h
                · exact e h.symm
                · cases hoj : ops[j]? with
                  | none => simp [hoj] at h
                  | some p =>
                    simp [hoj] at h
                    have := hI.closed j p hoj hj0 i h
                    rw [hun] at this; cases this
              · refine hF.block k hlt (fun ⟨j', hj', ho'⟩ => ?_)
                rcases hk with hk | ⟨hk1, hk2⟩
                · exact hne (hI.apart j j' k hk ho' ▸ hj')
                · rcases (hI.mine j' k ho').1 with h | h
                  · omega
                  · exact hk2 h
          · intro j p hp hj j' hj'
            by_cases e : j = i
            · subst e
              rw [ho] at hp
              obtain rfl := Option.some.inj hp
              by_cases e' : j = j'
              · subst e'; simp [show j < listed.size by omega]
              · rw [getD_set_ne true e']; exact hdep' j' hj'
            · have hj0 : listed.getD j true = true := by rwa [getD_set_ne true (Ne.symm e)] at hj
              have := hI.closed j p hp hj0 j' hj'
              by_cases e' : i = j'
              · subst e'; simp [show i < listed.size by omega]
              · rw [getD_set_ne true e']; exact this)
      split
      · rename_i hw; rw [if_pos hw] at hrun2; exact .inl hrun2
      · rename_i hw; rw [if_neg hw] at hrun2; exact hrun2
/-- THE RULE: a region that draws its order: what is said of each operation holds behind it. -/
theorem wp_region_inv {id : Nat} {a : Act} {w : World} (A : Nat → Ass) (eat : Nat → List Nat) (N : Nat) (T : Nat → Prop) (own : Nat → Nat → Prop) (hm : P.follows .mixedOrders = true)
    (hc : FitB ops (fun i => (A i).sl) eat N a.tmps.size) (hst : ∀ i, i < ops.size + N → (A i).Stab w.heap.size T)
    (hap : ∀ i j k, own i k → own j k → i = j) (hmi : ∀ i k, own i k → ops.size ≤ i ∧ T k ∧ k < w.heap.size) (hh : ∀ i, ops.size ≤ i → i < ops.size + N → (A i).on (slotsOf a) (own i) w.drew)
    (hstep : ∀ i o, ops[i]? = some o → StepOk P ops Q A eat N T w.drew a i o)
    (hend : ∀ a' w' own, St ops A eat N T w.drew a (fun _ => true) a' w' own → Q .normal a' w') : (Code.region id ops true).wp P Q a w := by
  refine wp_region_any hm ?_
  have hsz : w.drew.heap.size = w.heap.size := rfl
  refine inv_any (w0 := w.drew) (a0 := a) hc (by rw [hsz]; exact hst) hstep hend ops.size (Array.replicate ops.size false) a w.drew own (by simp) ?_ ?_
  · exact Nat.le_trans List.countP_le_length (by simp)
  · have hL : ∀ i, i < ops.size → (Array.replicate ops.size false).getD i true = false := fun i hi => by simp [hi]
    refine ⟨rfl, fun _ _ => rfl, rfl, Foot.refl _ _, hap, fun i k h => ⟨.inr (hmi i k h).2.1, by rw [hsz]; exact (hmi i k h).2.2⟩, fun i hiN hi _ => ?_, fun i o ho hi => ?_⟩
    · rcases Nat.lt_or_ge i ops.size with h | h
      · rw [hL i h] at hi; cases hi
      · exact hh i h hiN
    · rw [hL i (Array.getElem?_eq_some_iff.1 ho).1] at hi; cases hi
/-! #### the rule in lists -/
abbrev On := (Nat → Value) → (Nat → Prop) → World → Prop
def assOf (sls : List (List Nat)) (ons : List On) (i : Nat) : Ass := ⟨(sls[i]?).getD [], (ons[i]?).getD (fun _ _ _ => True)⟩
def eatOf (eats : List (List Nat)) (i : Nat) : List Nat := (eats[i]?).getD []
inductive AllStab (n0 : Nat) (T : Nat → Prop) : List (List Nat) → List On → Prop
  | nil : AllStab n0 T [] []
  | cons {sl : List Nat} {on : On} {sls : List (List Nat)} {ons : List On} (h : (Ass.mk sl on).Stab n0 T) (t : AllStab n0 T sls ons) : AllStab n0 T (sl :: sls) (on :: ons)
theorem AllStab.at {n0 : Nat} {T : Nat → Prop} {sls : List (List Nat)} {ons : List On} (h : AllStab n0 T sls ons) : ∀ i, (assOf sls ons i).Stab n0 T := by
  induction h with
  | nil => intro i val val' S w w' _ _ _ _; simp [assOf]
  | cons h t ih =>
    intro i
    cases i with
    | zero => exact h
    | succ i => have := ih i; simpa [assOf] using this
inductive AllStep (Z : Nat → Oper → Prop) : Nat → List Oper → Prop
  | nil {k : Nat} : AllStep Z k []
  | cons {k : Nat} {o : Oper} {l : List Oper} (h : Z k o) (t : AllStep Z (k + 1) l) : AllStep Z k (o :: l)
theorem AllStep.at {Z : Nat → Oper → Prop} {k : Nat} {l : List Oper} (h : AllStep Z k l) : ∀ i o, l[i]? = some o → Z (k + i) o := by
  induction h with
  | nil => intro i o h; simp at h
  | cons h t ih =>
    intro i o ho
    cases i with
    | zero => obtain rfl := Option.some.inj ho; exact h
    | succ i =>
      have := ih i o (by simpa using ho)
      rwa [show ∀ k, k + 1 + i = k + (i + 1) from fun k => by omega] at this
theorem St.kept {ops : Array Oper} {A : Nat → Ass} {eat : Nat → List Nat} {N : Nat} {T : Nat → Prop} {w0 : World} {a0 : Act} {L : Nat → Bool} {a : Act} {w : World} {own : Nat → Nat → Prop} (h : St ops A eat N T w0 a0 L a w own) (t : Nat) (ht : foreign ops t = true) : slotsOf a t = slotsOf a0 t :=
  h.keep t (fun j o ho hd => by
    have := all_range ht (Array.getElem?_eq_some_iff.1 ho).1
    simp [ho, hd] at this)
/-- What there is behind the region. -/
structure Fin_ (ops : Array Oper) (sls : List (List Nat)) (ons : List On) (eats : List (List Nat)) (N : Nat) (T : Nat → Prop) (w0 : World) (a0 : Act) (a : Act) (w : World) (own : Nat → Nat → Prop) : Prop where
  st : St ops (assOf sls ons) (eatOf eats) N T w0 a0 (fun _ => true) a w own
theorem Fin_.get {ops : Array Oper} {sls : List (List Nat)} {ons : List On} {eats : List (List Nat)} {N : Nat} {T : Nat → Prop} {w0 : World} {a0 a : Act} {w : World} {own : Nat → Nat → Prop} (h : Fin_ ops sls ons eats N T w0 a0 a w own) (i : Nat)
    (hi : (decide (i < ops.size + N) && (List.range ops.size).all (fun j => !(eatOf eats j).contains i)) = true) : (assOf sls ons i).on (slotsOf a) (own i) w := by
  rw [Bool.and_eq_true] at hi
  exact h.st.holds i (of_decide_eq_true hi.1) rfl (fun j hj he => by
    have := all_range hi.2 hj
    simp [he] at this)
theorem Fin_.at {ops : Array Oper} {sls : List (List Nat)} {ons : List On} {eats : List (List Nat)} {N : Nat} {T : Nat → Prop} {w0 : World} {a0 a : Act} {w : World} {own : Nat → Nat → Prop} (h : Fin_ ops sls ons eats N T w0 a0 a w own) (i : Nat) (on : On) (hon : ons[i]? = some on)
    (hi : (decide (i < ops.size + N) && (List.range ops.size).all (fun j => !(eatOf eats j).contains i)) = true) : on (slotsOf a) (own i) w := by
  have := h.get i hi
  simp only [assOf, hon, Option.getD_some] at this
  exact this
theorem wp_region_lists {l : List Oper} {id : Nat} {a : Act} {w : World} (sls : List (List Nat)) (ons : List On) (eats : List (List Nat)) (N : Nat) (T : Nat → Prop) (own : Nat → Nat → Prop) (hm : P.follows .mixedOrders = true)
    (hc : FitB l.toArray (fun i => (sls[i]?).getD []) (eatOf eats) N a.tmps.size) (hst : AllStab w.heap.size T sls ons)
    (hap : ∀ i j k, own i k → own j k → i = j) (hmi : ∀ i k, own i k → l.length ≤ i ∧ T k ∧ k < w.heap.size) (hh : ∀ i, l.length ≤ i → i < l.length + N → (assOf sls ons i).on (slotsOf a) (own i) w.drew)
    (hstep : AllStep (StepOk P l.toArray Q (assOf sls ons) (eatOf eats) N T w.drew a) 0 l)
    (hend : ∀ a' w' own, Fin_ l.toArray sls ons eats N T w.drew a a' w' own → Q .normal a' w') : (Code.region id l.toArray true).wp P Q a w :=
  wp_region_inv (assOf sls ons) (eatOf eats) N T own hm hc (fun i _ => hst.at i) hap (fun i k h => by simpa using hmi i k h) (fun i h1 h2 => hh i (by simpa using h1) (by simpa using h2))
    (fun i o ho => by have := hstep.at i o (by simpa using ho); rwa [Nat.zero_add] at this) (fun a' w' own h => hend a' w' own ⟨h⟩)
end
/-! #### steps -/
section
variable {P : Program} {o : Oper} {a : Act} {w w' : World} {K : Act → World → Prop} {Q : Exit → Act → World → Prop} {E : Prop} {ops : Array Oper} {v : Value}
theorem op_val (v : Value) (w' : World) (hg : o.guard = none) (h : (execOp a.eval o).run P w = .ok (.value v) w') (hk : K (a.put o.dst v) w') : if Region.wanted o (yielded ops a.tmps) = true then Oper.wp P o a w K Q else E := by
  rw [if_pos (by simp [Region.wanted, hg])]
  unfold Oper.wp
  rw [h]; exact hk
theorem op_skip (w' : World) (hg : o.guard = none) (h : (execOp a.eval o).run P w = .ok .skip w') (hk : K (a.put o.dst undef) w') : if Region.wanted o (yielded ops a.tmps) = true then Oper.wp P o a w K Q else E := by
  rw [if_pos (by simp [Region.wanted, hg])]
  unfold Oper.wp
  rw [h]; exact hk
theorem op_call {f : FuncId} {args : Array Value} (R : Value → World → Prop) (hg : o.guard = none) (h : (execOp a.eval o).run P w = .ok (.enter f args) w) (hc : Calls P f args w fun e w' => ∃ v, e = .returned v ∧ R v w') (hk : ∀ v w', R v w' → K (a.put o.dst v) w') : if Region.wanted o (yielded ops a.tmps) = true then Oper.wp P o a w K Q else E := by
  rw [if_pos (by simp [Region.wanted, hg])]
  unfold Oper.wp
  rw [h]
  exact hc.mono (by rintro e w' ⟨v, rfl, h⟩; exact hk v w' h)
/-- A guarded operation: what its guard tells. -/
theorem yield_of {j : Nat} {t : Tmp} {p : Oper} {b : Bool} (hj : ops[j]? = some p) (hd : p.dst = some t) (h : a.eval (.tmp t) = .bool b) : yielded ops a.tmps j = some b := by
  unfold yielded
  rw [hj, Option.bind_some, hd, Option.bind_some]
  have h' : a.tmps.getD t undef = .bool b := h
  rw [Array.getD_eq_getD_getElem?] at h'
  cases hx : a.tmps[t]? with
  | none => rw [hx] at h'; cases h'
  | some v => rw [hx] at h'; obtain rfl : v = .bool b := h'; rfl
theorem want_yes {j : Nat} {b : Bool} (hg : o.guard = some (j, b)) (h : yielded ops a.tmps j = some b) : Region.wanted o (yielded ops a.tmps) = true := by simp [Region.wanted, hg, h]
theorem want_no {j : Nat} {b : Bool} (hg : o.guard = some (j, b)) (h : yielded ops a.tmps j = some (!b)) : Region.wanted o (yielded ops a.tmps) = false := by cases b <;> simp [Region.wanted, hg, h]
theorem gop_val (v : Value) (w' : World) (hg : Region.wanted o (yielded ops a.tmps) = true) (h : (execOp a.eval o).run P w = .ok (.value v) w') (hk : K (a.put o.dst v) w') : if Region.wanted o (yielded ops a.tmps) = true then Oper.wp P o a w K Q else E := by
  rw [if_pos hg]
  unfold Oper.wp
  rw [h]; exact hk
theorem gop_call {f : FuncId} {args : Array Value} (R : Value → World → Prop) (hg : Region.wanted o (yielded ops a.tmps) = true) (h : (execOp a.eval o).run P w = .ok (.enter f args) w) (hc : Calls P f args w fun e w' => ∃ v, e = .returned v ∧ R v w') (hk : ∀ v w', R v w' → K (a.put o.dst v) w') : if Region.wanted o (yielded ops a.tmps) = true then Oper.wp P o a w K Q else E := by
  rw [if_pos hg]
  unfold Oper.wp
  rw [h]
  exact hc.mono (by rintro e w' ⟨v, rfl, h⟩; exact hk v w' h)
/-- An operation that leaves the world alone. -/
theorem post_pure {A : Nat → Ass} {eat : Nat → List Nat} {own : Nat → Nat → Prop} {i : Nat} {v : Value} (h : (A i).on (fun t => if o.dst = some t then v else slotsOf a t) (fun _ => False) w) : Post A eat own i o a w v w :=
  ⟨fun _ => False, Foot.refl _ _, h, fun _ h => h.elim⟩
/-- An operation that makes memory. -/
theorem post_new {A : Nat → Ass} {eat : Nat → List Nat} {own : Nat → Nat → Prop} {i : Nat} {v : Value} (hB : Below w.heap.size w w') (h : (A i).on (fun t => if o.dst = some t then v else slotsOf a t) (fun k => w.heap.size ≤ k ∧ k < w'.heap.size) w') : Post A eat own i o a w v w' :=
  ⟨fun k => w.heap.size ≤ k ∧ k < w'.heap.size, Foot.of_below hB, h, fun k h => .inr h⟩
end
section
variable {P : Program} {o : Oper} {a : Act} {w w' : World} {K : Act → World → Prop} {Q : Exit → Act → World → Prop} {E : Prop} {ops : Array Oper} {v : Value}
/-- append(v, x): x lies in a box of its own. -/
theorem step_one {α : Type} (d : Kd α) {S Sx : Nat → Prop} (hgd : o.guard = none) (s x : Operand) (t : TypeId) (z : Value) (bytes : Nat)
    (ho : o.op = .call { callee := .builtin .append, args := #[s, x], argTypes := #[t, t] })
    (ht : P.underlying t = some (.slice d.ty)) (hinfo : (P.info? d.ty).map (fun i => (i.zero, i.size, i.bytes)) = some (some z, d.sz, bytes)) (hz : z.cells.size = d.sz) (hs0 : 0 < d.sz) (hb0 : bytes ≤ 256)
    {v : Value} {xs : List α} {p : α} {cs : List Value} {g : Nat} (hs : a.eval s = v) (hx : a.eval x = .slice (some ⟨g, 0, none⟩) 1 1) (HR : d.R w S v xs) (hbox : w.heap[g]? = some (.cells cs.toArray d.ty (0, 0))) (hp : d.O w Sx p cs) (hd : ∀ k, Sx k → ¬ S k)
    (hl : xs.length + 1 ≤ 1073741824)
    (hk : ∀ v1 w1, d.R w1 (fun k => S k ∨ Sx k ∨ (w.heap.size ≤ k ∧ k < w1.heap.size)) v1 (xs ++ [p]) → Foot S w w1 → K (a.put o.dst v1) w1) : if Region.wanted o (yielded ops a.tmps) = true then Oper.wp P o a w K Q else E := by
  refine step_of hgd (fun Q9 h9 => ?_)
  obtain ⟨i0, hi, hzz⟩ := Option.map_eq_some_iff.1 hinfo
  simp only [Prod.mk.injEq] at hzz
  obtain ⟨hz0, hz1, hz2⟩ := hzz
  obtain ⟨inner, hown, hO, hS⟩ := Kd.R_own HR
  have hK := d.O_K hp
  have hb : (xs.length + 1) * bytes ≤ 140737488355328 := Nat.le_trans (Nat.mul_le_mul hl hb0) (by decide)
  refine wpList_append_own_at w hgd s x t ho 0 d.ty i0 z d.sz bytes ht hi hz0 hz1 hz2 hz hs0 v xs.length inner hs hown ⟨g, 0, none⟩ 1 1 cs hx (by rw [d.K_len hK]; simp)
    (by simpa using World.news_of_block (cs := cs.toArray) (t := d.ty) (fr := (0, 0)) hbox) (d.K_one hK) (by simp only [maxLen]; omega) hb (Nat.zero_le _) ?_
  intro v1 w1 hown1 hg1 _ hat
  refine h9 _ _ (hk v1 w1 (Kd.R_mono (Kd.R_appended hO hS hp (fun k h1 _ => hd k h1) hown1 hg1 ?_ hl) (fun k h1 h2 => h1.imp id (fun h => h.imp id (fun h => ⟨h, h2⟩)))) ⟨hg1.os, hg1.tape, hg1.output, hg1.size, fun k hk hn => hg1.block k hk (fun e => hn (hS k e.symm).1)⟩)
  rcases hat with hat | hat
  · exact .inl hat
  · exact .inr ⟨_, hat, Nat.le_refl _⟩
end
theorem fold_set : ∀ (l : List Value) (k : Nat) (acc : Array Value), k + l.length = acc.size → (l.zipIdx k).foldl (fun cs p => cs.setIfInBounds (0 + p.2) p.1) acc = (acc.toList.take k ++ l).toArray
  | [], k, acc, h => by
    have : acc.toList.take k = acc.toList := List.take_of_length_le (by simp at h ⊢; omega)
    simp [this]
  | x :: l, k, acc, h => by
    rw [List.zipIdx_cons, List.foldl_cons, fold_set l (k + 1) _ (by simp at h ⊢; omega)]
    have hk : k < acc.toList.length := by simp at h ⊢; omega
    simp only [Nat.zero_add, Array.toList_setIfInBounds]
    congr 1
    rw [List.take_succ_eq_append_getElem (by rw [List.length_set]; exact hk), List.take_set_of_le (Nat.le_refl k), List.getElem_set_self, List.append_assoc]
    rfl
theorem fill_one {n : Nat} {init : Array Value} {cs : List Value} (hi : init.size = n) (hc : cs.length = n) : Instr.fill (fun i => some (i * n, n)) init [(0, .agg cs.toArray)] = some cs.toArray := by
  have h1 : (Value.agg cs.toArray).cells = cs.toArray := rfl
  unfold Instr.fill
  simp only [h1, Nat.zero_mul]
  rw [if_neg (by simp [hc, hi])]
  unfold Instr.fill
  congr 1
  rw [← Array.foldl_toList]
  have := fold_set cs 0 init (by omega)
  simpa using this
section
variable {P : Program} {o : Oper} {a : Act} {w w' : World} {K : Act → World → Prop} {Q : Exit → Act → World → Prop} {E : Prop} {ops : Array Oper} {v : Value}
/-- A struct is stored whole, into a block of its size. -/
theorem step_store {cs : List Value} {old : Array Value} {b : Nat} {ty : TypeId} (hg : o.guard = none) (t : TypeId) (x y : Operand) (ho : o.op = .store t x y) (hx : a.eval x = .pointer (some ⟨b, 0, none⟩)) (hy : a.eval y = .agg cs.toArray)
    (hb : w.heap[b]? = some (.cells old ty (0, 0))) (hi : (P.info? t).map (·.size) = some cs.length) (hs : old.size = cs.length) (h1 : ∀ u ∈ cs, u.oneCell' = true)
    (hk : ∀ w1, w1.heap[b]? = some (.cells cs.toArray ty (0, 0)) → Foot (fun k => k = b) w w1 → K (a.put o.dst undef) w1) : if Region.wanted o (yielded ops a.tmps) = true then Oper.wp P o a w K Q else E := by
  rw [if_pos (by simp [Region.wanted, hg])]
  refine wp_store_row t x y ho b cs.toArray hx hy ty old hb (by simpa using hi) (by simpa using hs) (Array.all_eq_true_iff_forall_mem.2 (fun u hu => h1 u (by simpa using hu))) (hk _ (setRow_heap w b old _ ty _ hb) ?_)
  exact ⟨rfl, rfl, rfl, by simp [World.setRow], fun k hk hn => by simp only [World.setRow, Array.getElem?_modify]; rw [if_neg (fun e => hn e.symm)]⟩
theorem wpList_store {rest : List Oper} {cs : List Value} {old : Array Value} {b : Nat} {ty : TypeId} (hg : o.guard = none) (t : TypeId) (x y : Operand) (ho : o.op = .store t x y) (hx : a.eval x = .pointer (some ⟨b, 0, none⟩)) (hy : a.eval y = .agg cs.toArray)
    (hb : w.heap[b]? = some (.cells old ty (0, 0))) (hi : (P.info? t).map (·.size) = some cs.length) (hs : old.size = cs.length) (h1 : ∀ u ∈ cs, u.oneCell' = true)
    (hk : ∀ w1, w1.heap[b]? = some (.cells cs.toArray ty (0, 0)) → Foot (fun k => k = b) w w1 → wpList P ops Q rest (a.put o.dst undef) w1) : wpList P ops Q (o :: rest) a w :=
  wpList_step (fun K hK => step_store hg t x y ho hx hy hb hi hs h1 (fun w1 h2 h3 => hK _ _ (hk w1 h2 h3)))
theorem wpList_load {rest : List Oper} {cs : List Value} {b : Nat} {e : TypeId} {d : TypeDesc} (hw : Region.wanted o (yielded ops a.tmps) = true) (t : TypeId) (x : Operand) (ho : o.op = .load t x) (hx : a.eval x = .pointer (some ⟨b, 0, none⟩))
    (hb : w.heap[b]? = some (.cells cs.toArray e (0, 0))) (hu : P.underlying t = some d) (hd : d.isRow = true) (hi : (P.info? t).map (·.size) = some cs.length)
    (hk : wpList P ops Q rest (a.put o.dst (.agg cs.toArray)) w) : wpList P ops Q (o :: rest) a w :=
  wpList_step (fun K hK => by
    rw [if_pos hw]
    unfold Oper.wp execOp
    simp only [ho, hx, Sem.run_bind, run_loadAt_mid w b 0 t cs d (fun j v hv => by rw [Nat.zero_add]; rw [cell_of_row w b _ cs.toArray e (0, 0) hb]; simpa using hv) hu hd hi, Result.andThen_ok]
    exact hK _ _ hk)
theorem results_cell {fn : Func} {t : Tmp} {ty e : TypeId} {tmps : Array Value} {b : Nat} {cs : List Value} {d : TypeDesc} (h : fn.results = #[.cell t ty]) (ht : tmps.getD t undef = .pointer (some ⟨b, 0, none⟩)) (hb : w.heap[b]? = some (.cells cs.toArray e (0, 0)))
    (hu : P.underlying ty = some d) (hd : d.isRow = true) (hi : (P.info? ty).map (·.size) = some cs.length) : (results fn tmps).run P w = .ok (.agg cs.toArray) w := by
  have hl := run_loadVar_mid w b 0 ty cs d (fun j v hv => by rw [Nat.zero_add]; rw [cell_of_row w b _ cs.toArray e (0, 0) hb]; simpa using hv) hu hd hi
  have ht' : tmps[t]?.getD undef = .pointer (some ⟨b, 0, none⟩) := by simpa using ht
  simp [results, h, ht', asAddr, hl]
/-- A struct is loaded whole. -/
theorem step_load {cs : List Value} {b f : Nat} {d : TypeDesc} (hg : o.guard = none) (t : TypeId) (x : Operand) (ho : o.op = .load t x) (hx : a.eval x = .pointer (some ⟨b, f, none⟩))
    (hc : ∀ j u, cs[j]? = some u → w.cell? ⟨b, f + j, none⟩ = some u) (hu : P.underlying t = some d) (hd : d.isRow = true) (hi : (P.info? t).map (·.size) = some cs.length)
    (hk : K (a.put o.dst (.agg cs.toArray)) w) : if Region.wanted o (yielded ops a.tmps) = true then Oper.wp P o a w K Q else E := by
  refine op_val (.agg cs.toArray) w hg ?_ hk
  unfold execOp
  simp only [ho, hx, Sem.run_bind, run_loadAt_mid w b f t cs d hc hu hd hi, Result.andThen_ok]
  rfl
/-- The variadic's box of one struct. -/
theorem step_box {cs : List Value} {n bytes : Nat} {z : Value} (hg : o.guard = none) (t e : TypeId) (x : Operand) (ho : o.op = .buildSlice t 1 #[(0, x)]) (hx : a.eval x = .agg cs.toArray) (hu : P.underlying t = some (.slice e)) (hinfo : (P.info? e).map (fun i => (i.zero, i.size, i.bytes)) = some (some z, n, bytes)) (hc : cs.length = n) (h0 : 0 < n) (h1 : n ≤ 1000)
    (hk : K (a.put o.dst (.slice (some ⟨w.heap.size, 0, none⟩) 1 1)) (w.alloc (.cells cs.toArray e))) : if Region.wanted o (yielded ops a.tmps) = true then Oper.wp P o a w K Q else E := by
  rw [if_pos (by simp [Region.wanted, hg])]
  obtain ⟨ie, hi, hzz⟩ := Option.map_eq_some_iff.1 hinfo
  simp only [Prod.mk.injEq] at hzz
  obtain ⟨hz, hs, -⟩ := hzz
  refine wp_buildSlice t e 1 #[(0, x)] ho cs.toArray ie z hu hi hz (by rw [hs]; omega) (by rw [hs]; omega) ?_ hk
  have e1 : (#[(0, x)].map fun p : Nat × Operand => (p.1, a.eval p.2)).toList = [(0, .agg cs.toArray)] := by simp [hx]
  rw [e1, hs]
  exact fill_one (by simp) hc
end
/-! #### what is often said -/
section
variable {n0 : Nat} {T : Nat → Prop}
theorem stab_val (t : Nat) (p : Value → Prop) : (Ass.mk [t] (fun val _ _ => p (val t))).Stab n0 T := fun val val' S w w' h hs _ _ => by
  show p (val' t)
  rw [hs t (by simp)]; exact h
def onR {α : Type} (d : Kd α) (t : Nat) (xs : List α) : On := fun val S w => d.R w S (val t) xs
theorem stab_R {α : Type} (d : Kd α) (t : Nat) (xs : List α) : (Ass.mk [t] (onR d t xs)).Stab n0 T := fun val val' S w w' h hs hk _ => by
  show d.R w' S (val' t) xs
  rw [hs t (by simp)]
  exact Kd.R_move (fun k h1 h2 => ⟨h1, hk k (.inl h1) h2⟩) h
def onO {α : Type} (d : Kd α) (t : Nat) (x : α) : On := fun val S w => ∃ cs : List Value, val t = .agg cs.toArray ∧ d.O w S x cs
theorem stab_O {α : Type} (d : Kd α) (t : Nat) (x : α) : (Ass.mk [t] (onO d t x)).Stab n0 T := fun val val' S w w' h hs hk _ => by
  obtain ⟨cs, h1, h2⟩ := h
  exact ⟨cs, by rw [hs t (by simp)]; exact h1, d.O_move (fun k h1 h2 => ⟨h1, hk k (.inl h1) h2⟩) h2⟩
/-- A row that there was. -/
def onRc {α : Type} (d : Kd α) (v : Value) (xs : List α) : On := fun _ S w => d.R w S v xs
theorem stab_Rc {α : Type} (d : Kd α) (v : Value) (xs : List α) : (Ass.mk [] (onRc d v xs)).Stab n0 T := fun val val' S w w' h hs hk _ => Kd.R_move (fun k h1 h2 => ⟨h1, hk k (.inl h1) h2⟩) h
/-- A block of one's own, at a known place. -/
def onCells (b : Nat) (cs : Array Value) (ty : TypeId) : On := fun _ S w => w.heap[b]? = some (.cells cs ty (0, 0)) ∧ S b
theorem stab_cells (b : Nat) (cs : Array Value) (ty : TypeId) : (Ass.mk [] (onCells b cs ty)).Stab n0 T := fun val val' S w w' h hs hk _ => by
  obtain ⟨h1, h2⟩ := h
  exact ⟨(hk b (.inl h2) (Array.getElem?_eq_some_iff.1 h1).1).trans h1, h2⟩
/-- A block of one's own, behind a pointer. -/
def onBox (t : Nat) (cs : Array Value) (ty : TypeId) : On := fun val S w => ∃ b, val t = .pointer (some ⟨b, 0, none⟩) ∧ w.heap[b]? = some (.cells cs ty (0, 0)) ∧ S b
theorem stab_box (t : Nat) (cs : Array Value) (ty : TypeId) : (Ass.mk [t] (onBox t cs ty)).Stab n0 T := fun val val' S w w' h hs hk _ => by
  obtain ⟨b, h0, h1, h2⟩ := h
  exact ⟨b, by rw [hs t (by simp)]; exact h0, (hk b (.inl h2) (Array.getElem?_eq_some_iff.1 h1).1).trans h1, h2⟩
/-- A struct that lies in a block of one's own, at a known place. -/
def onAt {α : Type} (d : Kd α) (b : Nat) (ty : TypeId) (x : α) : On := fun _ S w => ∃ cs : List Value, w.heap[b]? = some (.cells cs.toArray ty (0, 0)) ∧ S b ∧ d.O w (fun k => S k ∧ k ≠ b) x cs
theorem stab_at {α : Type} (d : Kd α) (b : Nat) (ty : TypeId) (x : α) : (Ass.mk [] (onAt d b ty x)).Stab n0 T := fun val val' S w w' h hs hk _ => by
  obtain ⟨cs, h1, h2, h3⟩ := h
  exact ⟨cs, (hk b (.inl h2) (Array.getElem?_eq_some_iff.1 h1).1).trans h1, h2, d.O_move (fun k h1 h2 => ⟨h1, hk k (.inl h1.1) h2⟩) h3⟩
/-- A struct that lies in a block of one's own, behind a pointer. -/
def onPtr {α : Type} (d : Kd α) (t : Nat) (ty : TypeId) (x : α) : On := fun val S w => ∃ b, ∃ cs : List Value, val t = .pointer (some ⟨b, 0, none⟩) ∧ w.heap[b]? = some (.cells cs.toArray ty (0, 0)) ∧ S b ∧ d.O w (fun k => S k ∧ k ≠ b) x cs
theorem stab_ptr {α : Type} (d : Kd α) (t : Nat) (ty : TypeId) (x : α) : (Ass.mk [t] (onPtr d t ty x)).Stab n0 T := fun val val' S w w' h hs hk _ => by
  obtain ⟨b, cs, h0, h1, h2, h3⟩ := h
  exact ⟨b, cs, by rw [hs t (by simp)]; exact h0, (hk b (.inl h2) (Array.getElem?_eq_some_iff.1 h1).1).trans h1, h2, d.O_move (fun k h1 h2 => ⟨h1, hk k (.inl h1.1) h2⟩) h3⟩
/-- The variadic's box of one element. -/
def onOne {α : Type} (d : Kd α) (t : Nat) (x : α) : On := fun val S w => ∃ b, ∃ cs : List Value, val t = .slice (some ⟨b, 0, none⟩) 1 1 ∧ w.heap[b]? = some (.cells cs.toArray d.ty (0, 0)) ∧ S b ∧ d.O w (fun k => S k ∧ k ≠ b) x cs
theorem stab_one {α : Type} (d : Kd α) (t : Nat) (x : α) : (Ass.mk [t] (onOne d t x)).Stab n0 T := fun val val' S w w' h hs hk _ => by
  obtain ⟨b, cs, h0, h1, h2, h3⟩ := h
  exact ⟨b, cs, by rw [hs t (by simp)]; exact h0, (hk b (.inl h2) (Array.getElem?_eq_some_iff.1 h1).1).trans h1, h2, d.O_move (fun k h1 h2 => ⟨h1, hk k (.inl h1.1) h2⟩) h3⟩
end
end
section
open Go.RowKit
set_option linter.unusedVariables false
theorem kCell_Ks_of {w : World} {ok : Nat → Prop} : ∀ {xs : Term}, (∀ x ∈ xs, x.name.size ≤ 1073741824) → kCell.Ks w ok xs (xs.flatMap cellC)
  | [], _ => rfl
  | x :: xs, h => ⟨cellC x, xs.flatMap cellC, rfl, Kd.O_K kCell (kCell_mk w ok x (h x List.mem_cons_self)), kCell_Ks_of (fun y hy => h y (List.mem_cons_of_mem _ hy))⟩
theorem kCell_R_W {w : World} {S : Nat → Prop} (ok : Nat → Prop) {v : Value} {xs : Term} (h : kCell.R w S v xs) : kCell.W w S ok v xs := by
  obtain ⟨h0, ⟨rfl, rfl⟩ | ⟨b, cap, cur, rfl, hb, hS, h1, h2, h3, h4⟩⟩ := h
  · exact ⟨h0, .inl ⟨rfl, rfl⟩⟩
  · obtain ⟨e, hm⟩ := kCell_Os.1 h4
    refine ⟨h0, .inr ⟨b, cap, cur, rfl, hb, hS, h1, h2, h3, ?_⟩⟩
    rw [e]; exact kCell_Ks_of hm
theorem Foot.of_grown {w w1 : World} {S : Nat → Prop} {row : Option Nat} (hg : w.grownBy w1 row) (hr : ∀ k, row = some k → S k) : Foot S w w1 :=
  ⟨hg.os, hg.tape, hg.output, hg.size, fun k hk hn => hg.block k hk (fun e => hn (hr k e.symm))⟩
theorem lst_cons {α : Type} {l : List α} {n : Nat} (h : l.length = n + 1) : ∃ x l', l = x :: l' ∧ l'.length = n := by
  cases l with
  | nil => simp at h
  | cons x l => exact ⟨x, l, rfl, by simpa using h⟩
theorem foot_cell {T : Nat → Prop} {w W : World} {b o : Nat} {u : Value} (h : Foot T w.drew W) (hT : ¬ T b) (hc : w.cell? ⟨b, o, none⟩ = some u) : W.cell? ⟨b, o, none⟩ = some u := by
  have hl := World.block_lt_of_cell? w _ hc
  exact (World.cell?_of_block (w := w) (w' := W) (h.block b hl hT)).trans hc
theorem foot_V {α : Type} {d : Kd α} {T ok : Nat → Prop} {w W : World} {v : Value} {xs : List α} (h : Foot T w.drew W) (hT : ∀ k, ok k → ¬ T k) (hV : d.V w ok v xs) (hp : 0 < d.sz) : d.V W ok v xs :=
  Kd.V_move (w := w) (fun k h1 h2 => ⟨h1, h.block k h2 (hT k h1)⟩) hV hp
section
variable {o : Oper} {a : Act} {w : World} {K : Act → World → Prop} {Q : Exit → Act → World → Prop} {E : Prop} {ops : Array Oper}
/-- append(v, y...) of places, as a step. -/
theorem step_cells {S ok : Nat → Prop} (hg : o.guard = none) (s x : Operand) (ho : o.op = .call { callee := .builtin .append, args := #[s, x], argTypes := #[23, 23] })
    {v u : Value} {xs ys : Term} (hs : a.eval s = v) (hx : a.eval x = u) (HR : kCell.R w S v xs) (HV : kCell.V w ok u ys) (hd : ∀ k, ok k → ¬ S k) (hl : xs.length + ys.length ≤ 1073741824)
    (hk : ∀ v1 w1, kCell.R w1 (fun k => S k ∨ (w.heap.size ≤ k ∧ k < w1.heap.size)) v1 (xs ++ ys) → Foot S w w1 → K (a.put o.dst v1) w1) : if Region.wanted o (yielded ops a.tmps) = true then Oper.wp Tryz.prog o a w K Q else E := by
  refine step_of hg (fun Q9 h9 => ?_)
  obtain ⟨_, _, _, h3⟩ := Kd.R_own HR
  refine Kd.W_cat kCell hg s x 23 (.agg #[.int .i64 0, .int .i64 0, .string ⟨#[]⟩]) 32 ho Tryz.underlying23 info_cell rfl (by decide) (by decide) v u xs ys S ok hs hx (kCell_R_W ok HR) (Kd.V_mono HV (fun k hk => ⟨hk, fun e => hd k hk (h3 k e.symm).1⟩) (by decide)) hl ?_
  intro v1 w1 hW hg1
  exact h9 _ _ (hk v1 w1 (Kd.R_mono (kCell_W_R hW) (fun k h1 h2 => h1.imp id (fun h => ⟨h, h2⟩))) (Foot.of_grown hg1 (fun k e => (h3 k e).1)))
end
end
end Go.Proofs.YtgiobpggonceeaaGreatDoor
