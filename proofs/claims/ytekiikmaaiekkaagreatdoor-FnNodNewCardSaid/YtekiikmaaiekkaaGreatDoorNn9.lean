/- Draws whose region calls the reader more than once: what holds whatever the order. Condition: the reader has been asked no more than a number of times; and what goes with it. -/
import Derived.Test.YtekiikmaaiekkaaGreatDoorNn1
import Derived.Test.YtekiikmaaiekkaaGreatDoorNn3
import Derived.Test.YtekiikmaaiekkaaGreatDoorNn6
import Derived.Test.YtekiikmaaiekkaaGreatDoorNn8
namespace Go.Proofs.YtekiikmaaiekkaaGreatDoor
section
section
namespace Sh
open Go.RowKit
set_option linter.unusedVariables false
structure St (ops : Array Oper) (A : Nat → Ass) (eat : Nat → List Nat) (N : Nat) (T G : Nat → Prop) (w0 : World) (a0 : Act) (L : Nat → Bool) (a : Act) (w : World) (own : Nat → Nat → Prop) : Prop where
  size : a.tmps.size = a0.tmps.size
  keep : ∀ t, (∀ j o, ops[j]? = some o → o.dst = some t → L j = false) → slotsOf a t = slotsOf a0 t
  rest : a.defers = a0.defers
  foot : Foot T w0 w
  apart : ∀ i j k, own i k → own j k → i = j
  mine : ∀ i k, own i k → (w0.heap.size ≤ k ∨ T k) ∧ k < w.heap.size
  holds : ∀ i, i < ops.size + N → L i = true → (∀ j, j < ops.size → i ∈ eat j → L j = false) → (A i).on (slotsOf a) (own i) w
  closed : ∀ i o, ops[i]? = some o → L i = true → ∀ j ∈ depsOf o, L j = true
  free : ∀ i k, own i k → ¬ G k
section
variable {P : Program} {ops : Array Oper} {Q : Exit → Act → World → Prop} {A : Nat → Ass} {eat : Nat → List Nat} {N : Nat} {T G : Nat → Prop} {I : Nat → World → Prop} {w0 : World} {a0 : Act}
/-- What op i, come up in this state, must leave. -/
def Post (G : Nat → Prop) (I : Nat → World → Prop) (f : Nat) (A : Nat → Ass) (eat : Nat → List Nat) (own : Nat → Nat → Prop) (i : Nat) (o : Oper) (a : Act) (w : World) (v : Value) (w' : World) : Prop :=
  ∃ S : Nat → Prop, Foot (fun k => (∃ j ∈ eat i, own j k) ∨ G k) w w' ∧ I f w' ∧ (A i).on (fun t => if o.dst = some t then v else slotsOf a t) S w' ∧ (∀ k, S k → (∃ j ∈ eat i, own j k) ∨ (w.heap.size ≤ k ∧ k < w'.heap.size))
def StepOk (G : Nat → Prop) (I : Nat → World → Prop) (P : Program) (ops : Array Oper) (Q : Exit → Act → World → Prop) (A : Nat → Ass) (eat : Nat → List Nat) (N : Nat) (T : Nat → Prop) (w0 : World) (a0 : Act) (i : Nat) (o : Oper) : Prop :=
  ∀ (a : Act) (w : World) (own : Nat → Nat → Prop), (∀ t, keptAt ops i t = true → slotsOf a t = slotsOf a0 t) → (∀ j, usable ops eat N i j = true → (A j).on (slotsOf a) (own j) w) →
    (∀ i j k, own i k → own j k → i = j) → (∀ i k, own i k → (w0.heap.size ≤ k ∨ T k) ∧ k < w.heap.size) → Foot T w0 w → (∀ i k, own i k → ¬ G k) → ∀ f, I (f + 1) w →
    ∀ K : Act → World → Prop, (∀ v w', Post G I f A eat own i o a w v w' → K (a.put o.dst v) w') → if Region.wanted o (yielded ops a.tmps) = true then Oper.wp P o a w K Q else K (a.put o.dst undef) w
theorem inv_any (hc : FitB ops (fun i => (A i).sl) eat N a0.tmps.size) (hst : ∀ i, i < ops.size + N → (A i).Stab w0.heap.size T) (hG : ∀ k, G k → T k ∧ k < w0.heap.size) (ID : ∀ f w, I (f + 1) w → I f w) (hstep : ∀ i o, ops[i]? = some o → StepOk G I P ops Q A eat N T w0 a0 i o)
    (hend : ∀ a w own f, St ops A eat N T G w0 a0 (fun _ => true) a w own → I f w → Q .normal a w) :
    ∀ (fuel : Nat) (listed : Array Bool) (a : Act) (w : World) (own : Nat → Nat → Prop), listed.size = ops.size → (List.range ops.size).countP (fun i => !listed.getD i true) ≤ fuel →
      St ops A eat N T G w0 a0 (fun i => listed.getD i true) a w own → I fuel w → wpAny P .any ops Q fuel listed a w := by
  intro fuel
  induction fuel with
  | zero =>
    intro listed a w own hs hn hI hIf
    have hall : ∀ i, listed.getD i true = true := fun i => by
      rcases Nat.lt_or_ge i ops.size with hi | hi
      · have h0 : (List.range ops.size).countP (fun i => !listed.getD i true) = 0 := by omega
        have := List.countP_eq_zero.1 h0 i (List.mem_range.2 hi)
        simpa using this
      · simp [Array.getElem?_eq_none (show listed.size ≤ i by omega)]
    refine ⟨?_, hend a w own 0 (by have e : (fun i => listed.getD i true) = fun _ => true := funext hall; rw [← e]; exact hI) hIf⟩
    cases hr : Region.ready .any ops listed with
    | nil => rfl
    | cons x l =>
      have : x ∈ Region.ready .any ops listed := by rw [hr]; exact List.mem_cons_self
      have := (mem_ready.1 this).1
      rw [hall x] at this; cases this
  | succ fuel ih =>
    intro listed a w own hs hn hI hIf
    refine ⟨fun h0 => hend a w own (fuel + 1) ?_ hIf, fun i hi => ?_⟩
    · have e : (fun i => listed.getD i true) = fun _ => true := funext (all_listed hs hc.back h0)
      rw [← e]; exact hI
    · obtain ⟨hun, o, ho, hdep⟩ := mem_ready.1 hi
      have hil : i < ops.size := (Array.getElem?_eq_some_iff.1 ho).1
      have hdep' : ∀ j ∈ depsOf o, listed.getD j true = true := fun j hj => by
        obtain ⟨e, he, rfl⟩ := List.mem_map.1 hj
        obtain ⟨he1, he2⟩ := List.mem_filter.1 he
        have h1 := hdep e (by simpa using he1) he2
        rcases Nat.lt_or_ge e.on listed.size with h' | h'
        · simpa [h'] using h1
        · simp [Array.getElem?_eq_none h'] at h1
      have hdst : ∀ x, o.dst = some x → x < a.tmps.size := fun x hx => by
        have := all_range hc.dst hil
        simp [ho, hx] at this
        rw [hI.size]; exact this
      have heat : ∀ j ∈ eat i, ∀ i', i' < ops.size → j ∈ eat i' → i' = i := fun j hj i' hi' hj' => by
        have := all_range (List.all_eq_true.1 (all_range hc.eat hil) j hj) hi'
        simpa [hj'] using this
      have hrun := hstep i o ho a w own (fun t ht => hI.keep t (fun j p hp hd => by
        cases hL : listed.getD j true with
        | false => rfl
        | true =>
          have h1 := all_range ht (Array.getElem?_eq_some_iff.1 hp).1
          simp [hp, hd] at h1
          have := hI.closed j p hp hL i h1
          rw [hun] at this; cases this)) (fun j hj => by
        unfold usable at hj
        rw [Bool.and_eq_true, Bool.or_eq_true] at hj
        obtain ⟨h1, h2⟩ := hj
        have hLj : listed.getD j true = true ∧ j < ops.size + N := by
          rcases h1 with h1 | h1
          · simp [ho] at h1
            refine ⟨hdep' j h1, ?_⟩
            have hb' := all_range hc.back hil
            simp only [ho, Option.map_some, Option.getD_some] at hb'
            have := List.all_eq_true.1 hb' j h1
            simp at this
            omega
          · rw [Bool.and_eq_true] at h1
            obtain ⟨h1, h3⟩ := h1
            simp at h1 h3
            exact ⟨by simp [Array.getElem?_eq_none (show listed.size ≤ j by omega)], h3⟩
        refine hI.holds j hLj.2 hLj.1 (fun i' hi' hj' => ?_)
        have h5 := all_range h2 hi'
        by_cases e : i' = i
        · subst e; exact hun
        · cases hL : listed.getD i' true with
          | false => rfl
          | true =>
            simp [hj', e] at h5
            cases hp : ops[i']? with
            | none => simp [hp] at h5
            | some p =>
              simp [hp] at h5
              have := hI.closed i' p hp hL i h5
              rw [hun] at this; cases this) hI.apart hI.mine hI.foot hI.free fuel hIf
      unfold wpOp
      rw [ho]
      simp only
      have hrun2 := hrun (wpAny P .any ops Q fuel (listed.setIfInBounds i true)) (fun v w' hP => by
        obtain ⟨S, hF, hI2, hA, hS⟩ := hP
        have hU : ∀ k, (∃ j ∈ eat i, own j k) → (w0.heap.size ≤ k ∨ T k) := fun k ⟨j, _, hj⟩ => (hI.mine j k hj).1
        have hput : ∀ t, slotsOf (a.put o.dst v) t = if o.dst = some t then v else slotsOf a t := slots_put hdst
        refine ih (listed.setIfInBounds i true) (a.put o.dst v) w' (fun j k => if j = i then S k else own j k ∧ ¬ j ∈ eat i) (by simpa using hs) ?_ ?_ hI2
        · have := countP_lt (p := fun i => !listed.getD i true) (q := fun j => !(listed.setIfInBounds i true).getD j true) (List.range ops.size) (fun x hx hq => ?_) i (List.mem_range.2 hil) (by rw [hun]; rfl) (by simp [show i < listed.size by omega])
          · omega
          · by_cases hx' : i = x
            · subst hx'; simp [show i < listed.size by omega] at hq
            · rwa [getD_set_ne true hx'] at hq
        · refine ⟨?_, ?_, ?_, ?_, ?_, ?_, ?_, ?_, ?_⟩
          · rw [← hI.size]; cases o.dst <;> simp [Act.put]
          · intro t ht
            have hn : ¬ o.dst = some t := fun hd => by
              have := ht i o ho hd
              simp [show i < listed.size by omega] at this
            rw [hput, if_neg hn]
            refine hI.keep t (fun j p hp hd => ?_)
            have := ht j p hp hd
            by_cases e : i = j
            · subst e; rw [ho] at hp; obtain rfl := Option.some.inj hp; exact (hn hd).elim
            · rwa [getD_set_ne true e] at this
          · rw [← hI.rest]; cases o.dst <;> rfl
          · refine hI.foot.trans hF (fun k hk he => ?_)
            rcases he with he | he
            · rcases hU k he with h | h
              · omega
              · exact h
            · exact (hG k he).1
          · intro j1 j2 k h1 h2
            have key : ∀ j, j ≠ i → own j k → ¬ j ∈ eat i → S k → False := fun j hj ho1 he hS1 => by
              rcases hS k hS1 with ⟨j', hj', ho2⟩ | ⟨h3, _⟩
              · exact he (hI.apart j j' k ho1 ho2 ▸ hj')
              · have := (hI.mine j k ho1).2; omega
            by_cases e1 : j1 = i
            · by_cases e2 : j2 = i
              · rw [e1, e2]
              · simp only [if_pos e1] at h1
                simp only [if_neg e2] at h2
                exact (key j2 e2 h2.1 h2.2 h1).elim
            · by_cases e2 : j2 = i
              · simp only [if_pos e2] at h2
                simp only [if_neg e1] at h1
                exact (key j1 e1 h1.1 h1.2 h2).elim
              · simp only [if_neg e1] at h1
                simp only [if_neg e2] at h2
                exact hI.apart j1 j2 k h1.1 h2.1
          · intro j k h
            by_cases e : j = i
            · simp only [if_pos e] at h
              rcases hS k h with he | ⟨h1, h2⟩
              · obtain ⟨j', _, hj'⟩ := he
                have := hI.mine j' k hj'
                have := hF.size
                exact ⟨(hI.mine j' k hj').1, by omega⟩
              · have := hI.foot.size
                exact ⟨.inl (by omega), h2⟩
            · simp only [if_neg e] at h
              have h1 := hI.mine j k h.1
              have := hF.size
              exact ⟨h1.1, by omega⟩
          · intro j hjN hj he
            by_cases e : j = i
            · subst e
              have e2 : (fun k => if j = j then S k else own j k ∧ ¬ j ∈ eat j) = S := funext fun k => if_pos rfl
              rw [e2, show slotsOf (a.put o.dst v) = fun t => if o.dst = some t then v else slotsOf a t from funext hput]
              exact hA
            · have hj0 : listed.getD j true = true := by rwa [getD_set_ne true (Ne.symm e)] at hj
              have hne : ¬ j ∈ eat i := fun h => by
                have := he i hil h
                simp [show i < listed.size by omega] at this
              have h0 := hI.holds j hjN hj0 (fun j' hj' hm => by
                by_cases e' : j' = i
                · subst e'; exact (hne hm).elim
                · have := he j' hj' hm
                  rwa [getD_set_ne true (Ne.symm e')] at this)
              have e2 : (fun k => if j = i then S k else own j k ∧ ¬ j ∈ eat i) = own j := funext fun k => by rw [if_neg e]; exact propext ⟨fun h => h.1, fun h => ⟨h, hne⟩⟩
              rw [e2]
              refine hst j hjN _ _ _ _ _ h0 (fun t ht => ?_) (fun k hk hlt => ?_) hF.size
              · rw [hput, if_neg]
                intro hd
                have := all_range (List.all_eq_true.1 (all_range hc.slot hjN) t ht) hil
                simp [ho, hd] at this
                rcases this with h | h
                · exact e h.symm
                · cases hoj : ops[j]? with
                  | none => simp [hoj] at h
                  | some p =>
                    simp [hoj] at h
                    have := hI.closed j p hoj hj0 i h
                    rw [hun] at this; cases this
              · refine hF.block k hlt (fun hx => ?_)
                rcases hx with ⟨j', hj', ho'⟩ | hx
                · rcases hk with hk | ⟨hk1, hk2⟩
                  · exact hne (hI.apart j j' k hk ho' ▸ hj')
                  · rcases (hI.mine j' k ho').1 with h | h
                    · omega
                    · exact hk2 h
                · rcases hk with hk | ⟨hk1, hk2⟩
                  · exact hI.free j k hk hx
                  · exact hk2 (hG k hx).1
          · intro j p hp hj j' hj'
            by_cases e : j = i
            · subst e
              rw [ho] at hp
              obtain rfl := Option.some.inj hp
              by_cases e' : j = j'
              · subst e'; simp [show j < listed.size by omega]
              · rw [getD_set_ne true e']; exact hdep' j' hj'
            · have hj0 : listed.getD j true = true := by rwa [getD_set_ne true (Ne.symm e)] at hj
              have := hI.closed j p hp hj0 j' hj'
              by_cases e' : i = j'
              · subst e'; simp [show i < listed.size by omega]
              · rw [getD_set_ne true e']; exact this
          · intro j k h
            by_cases e : j = i
            · simp only [if_pos e] at h
              rcases hS k h with ⟨j', _, hj'⟩ | ⟨h1, _⟩
              · exact hI.free j' k hj'
              · intro hg
                have h2 := (hG k hg).2
                have := hI.foot.size
                omega
            · simp only [if_neg e] at h
              exact hI.free j k h.1)
      split
      · rename_i hw; rw [if_pos hw] at hrun2; exact .inl hrun2
      · rename_i hw; rw [if_neg hw] at hrun2; exact hrun2
/-- THE RULE: a region that draws its order: what is said of each operation holds behind it. -/
theorem wp_region_inv {id : Nat} {a : Act} {w : World} (A : Nat → Ass) (eat : Nat → List Nat) (N : Nat) (T : Nat → Prop) (own : Nat → Nat → Prop) (hm : P.follows .mixedOrders = true)
    (hc : FitB ops (fun i => (A i).sl) eat N a.tmps.size) (hst : ∀ i, i < ops.size + N → (A i).Stab w.heap.size T)
    (hap : ∀ i j k, own i k → own j k → i = j) (hmi : ∀ i k, own i k → ops.size ≤ i ∧ T k ∧ k < w.heap.size) (hh : ∀ i, ops.size ≤ i → i < ops.size + N → (A i).on (slotsOf a) (own i) w.drew)
    (hG : ∀ k, G k → T k ∧ k < w.heap.size) (ID : ∀ f w, I (f + 1) w → I f w) (hI0 : I ops.size w.drew) (hfr : ∀ i k, own i k → ¬ G k) (hstep : ∀ i o, ops[i]? = some o → StepOk G I P ops Q A eat N T w.drew a i o)
    (hend : ∀ a' w' own f, St ops A eat N T G w.drew a (fun _ => true) a' w' own → I f w' → Q .normal a' w') : (Code.region id ops true).wp P Q a w := by
  refine wp_region_any hm ?_
  have hsz : w.drew.heap.size = w.heap.size := rfl
  refine inv_any (w0 := w.drew) (a0 := a) hc (by rw [hsz]; exact hst) (by rw [hsz]; exact hG) ID hstep hend ops.size (Array.replicate ops.size false) a w.drew own (by simp) ?_ ?_ hI0
  · exact Nat.le_trans List.countP_le_length (by simp)
  · have hL : ∀ i, i < ops.size → (Array.replicate ops.size false).getD i true = false := fun i hi => by simp [hi]
    refine ⟨rfl, fun _ _ => rfl, rfl, Foot.refl _ _, hap, fun i k h => ⟨.inr (hmi i k h).2.1, by rw [hsz]; exact (hmi i k h).2.2⟩, fun i hiN hi _ => ?_, fun i o ho hi => ?_, hfr⟩
    · rcases Nat.lt_or_ge i ops.size with h | h
      · rw [hL i h] at hi; cases hi
      · exact hh i h hiN
    · rw [hL i (Array.getElem?_eq_some_iff.1 ho).1] at hi; cases hi
theorem St.kept {ops : Array Oper} {A : Nat → Ass} {eat : Nat → List Nat} {N : Nat} {T G : Nat → Prop} {w0 : World} {a0 : Act} {L : Nat → Bool} {a : Act} {w : World} {own : Nat → Nat → Prop} (h : St ops A eat N T G w0 a0 L a w own) (t : Nat) (ht : foreign ops t = true) : slotsOf a t = slotsOf a0 t :=
  h.keep t (fun j o ho hd => by
    have := all_range ht (Array.getElem?_eq_some_iff.1 ho).1
    simp [ho, hd] at this)
/-- What there is behind the region. -/
structure Fin_ (ops : Array Oper) (sls : List (List Nat)) (ons : List On) (eats : List (List Nat)) (N : Nat) (T G : Nat → Prop) (w0 : World) (a0 : Act) (a : Act) (w : World) (own : Nat → Nat → Prop) : Prop where
  st : St ops (assOf sls ons) (eatOf eats) N T G w0 a0 (fun _ => true) a w own
theorem Fin_.get {ops : Array Oper} {sls : List (List Nat)} {ons : List On} {eats : List (List Nat)} {N : Nat} {T G : Nat → Prop} {w0 : World} {a0 a : Act} {w : World} {own : Nat → Nat → Prop} (h : Fin_ ops sls ons eats N T G w0 a0 a w own) (i : Nat)
    (hi : (decide (i < ops.size + N) && (List.range ops.size).all (fun j => !(eatOf eats j).contains i)) = true) : (assOf sls ons i).on (slotsOf a) (own i) w := by
  rw [Bool.and_eq_true] at hi
  exact h.st.holds i (of_decide_eq_true hi.1) rfl (fun j hj he => by
    have := all_range hi.2 hj
    simp [he] at this)
theorem Fin_.at {ops : Array Oper} {sls : List (List Nat)} {ons : List On} {eats : List (List Nat)} {N : Nat} {T G : Nat → Prop} {w0 : World} {a0 a : Act} {w : World} {own : Nat → Nat → Prop} (h : Fin_ ops sls ons eats N T G w0 a0 a w own) (i : Nat) (on : On) (hon : ons[i]? = some on)
    (hi : (decide (i < ops.size + N) && (List.range ops.size).all (fun j => !(eatOf eats j).contains i)) = true) : on (slotsOf a) (own i) w := by
  have := h.get i hi
  simp only [assOf, hon, Option.getD_some] at this
  exact this
theorem wp_region_lists {l : List Oper} {id : Nat} {a : Act} {w : World} (sls : List (List Nat)) (ons : List On) (eats : List (List Nat)) (N : Nat) (T : Nat → Prop) (own : Nat → Nat → Prop) (hm : P.follows .mixedOrders = true)
    (hc : FitB l.toArray (fun i => (sls[i]?).getD []) (eatOf eats) N a.tmps.size) (hst : AllStab w.heap.size T sls ons)
    (hap : ∀ i j k, own i k → own j k → i = j) (hmi : ∀ i k, own i k → l.length ≤ i ∧ T k ∧ k < w.heap.size) (hh : ∀ i, l.length ≤ i → i < l.length + N → (assOf sls ons i).on (slotsOf a) (own i) w.drew)
    (hG : ∀ k, G k → T k ∧ k < w.heap.size) (ID : ∀ f w, I (f + 1) w → I f w) (hI0 : I l.length w.drew) (hfr : ∀ i k, own i k → ¬ G k)
    (hstep : AllStep (StepOk G I P l.toArray Q (assOf sls ons) (eatOf eats) N T w.drew a) 0 l)
    (hend : ∀ a' w' own f, Fin_ l.toArray sls ons eats N T G w.drew a a' w' own → I f w' → Q .normal a' w') : (Code.region id l.toArray true).wp P Q a w :=
  wp_region_inv (assOf sls ons) (eatOf eats) N T own hm hc (fun i _ => hst.at i) hap (fun i k h => by simpa using hmi i k h) (fun i h1 h2 => hh i (by simpa using h1) (by simpa using h2)) hG ID (by simpa using hI0) hfr
    (fun i o ho => by have := hstep.at i o (by simpa using ho); rwa [Nat.zero_add] at this) (fun a' w' own f h h2 => hend a' w' own f ⟨h⟩ h2)
end
end Sh
end
section
open Go.RowKit
set_option linter.unusedVariables false
set_option maxRecDepth 100000
def kTerms : Kd Term := Kd.slice 24 kCell (by decide)
/-- A row of rows of places, read: element i. -/
theorem terms_at {w : World} {ok : Nat → Prop} {A : Option Addr} {xs : List Term} (h : kTerms.C w ok A xs) (i : Nat) (hi : i < xs.length) : ∃ b off v, A = some ⟨b, off, none⟩ ∧ ok b ∧ w.cell? ⟨b, off + i, none⟩ = some v ∧ kCell.V w ok v xs[i] := by
  obtain ⟨b, off, cs, hA, hb, ⟨v, rfl, hV⟩, hc⟩ := Kd.C_get h (List.getElem?_eq_getElem hi)
  have := hc 0 _ rfl
  rw [show i * kTerms.sz + 0 = i from by simp [kTerms, Kd.slice]] at this
  exact ⟨b, off, v, hA, hb, this, hV⟩
set_option maxHeartbeats 2000000 in
theorem TrmMake_c (nm : ByteArray) (hnm : nm.size ≤ 1073741824) (v : Value) (ts : List Term) (hts : ts.length ≤ 100) (hle : ∀ t ∈ ts, t.length ≤ 100) (ok : Nat → Prop) (w : World) (hV : kTerms.V w ok v ts) (hok : ∀ k, ok k → k < w.heap.size) :
    Calls Tryz.prog 245 #[.string nm, v] w fun e w' => ∃ (u : Value) (t : Term), e = .returned u ∧ t.length ≤ 20000 ∧ kCell.R w' (fun k => w.heap.size ≤ k) u t ∧ Below w.heap.size w w' := by
  obtain ⟨A, c, rfl, h1, h2, h3, hC, hz⟩ := hV
  have HC := Sec.mk hC
  have HOK := Sec.mk hok
  clear hC hz hok
  have hu := Tryz.underlying84
  go_enter Tryz.func245, Tryz.ntmps245
  go_wp2
  go_loopw [5, 6] (fun ov iv wr => ∃ (k : Nat) (out : Term), k ≤ ts.length ∧ iv = .int .i64 k ∧ out.length ≤ 1 + 100 * k ∧ Sec (kCell.R wr (fun k => w.heap.size ≤ k) ov out) ∧ Sec (Below w.heap.size w wr)) (fun _ iv _ => ts.length - (intOf iv).toNat)
  case atStart => exact ⟨0, [⟨3, (ts.length : Int), nm⟩], Nat.zero_le _, rfl, by simp, ⟨⟨by simp, .inr ⟨w.heap.size, 1, #[.int .i64 3, .int .i64 ts.length, .string nm], rfl, heap_alloc_new w _, Nat.le_refl _, Nat.le_refl _, by decide, by rfl, kCell_Os.2 ⟨rfl, fun x hx => by simp at hx; subst hx; exact hnm⟩⟩⟩⟩, ⟨belA (Below.refl _ _) _⟩⟩
  case round =>
    obtain ⟨k, out, hk, rfl, hlo, hR, hb⟩ := hrel
    obtain ⟨A9, c9, rfl, hc9, -⟩ := Kd.R_form hR.out
    have T0 : Sec True := ⟨trivial⟩
    by_cases hlt : k < ts.length
    · obtain ⟨b, off, vt, rfl, hob, hcell, hVt⟩ := terms_at (Kd.C_below HC.out hb.out (by decide)) k hlt
      have hl1 := hle ts[k] (List.getElem_mem hlt)
      generalize ts[k] = t at *
      have VT := Sec.mk hVt
      have hat : Sec (∀ W, Below wr.heap.size wr W → W.cell? ⟨b, off + k, none⟩ = some vt) := ⟨fun W h => Raw.cell_below h hcell⟩
      have i0 : (0 : Int) ≤ (k : Int) := by omega
      have i1 : (k : Int) < (ts.length : Int) := by omega
      have HT := Sec.mk (TrmOk_c vt t ok wr hVt)
      obtain ⟨At, ct, rfl, -, -, ht3, -⟩ := hVt
      cases ht : trmOk t with
      | false =>
        rw [ht] at HT
        clear ht
        go_wp2_with (go_at_call 49; refine HT.out.mono ?_; rintro e w1 ⟨rfl, hb1⟩; have B1 := Sec.mk (bel hb.out hb1); clear hb1)
        go_ret
        exact ⟨_, [], rfl, by simp, Kd.R_mono (Kd.R_empty kCell (w := w1) (W := w1) (Nat.le_refl _)) (fun q h _ => Nat.le_trans B1.out.size h), belA B1.out _⟩
      | true =>
        rw [ht] at HT
        clear ht
        go_wp2_with (first | (clear T0; go_at_call 49; have T1 : Sec True := ⟨trivial⟩; refine HT.out.mono ?_; rintro e w1 ⟨rfl, hb1⟩; have B1 := Sec.mk (bel hb.out hb1); have R1 := Sec.mk (Kd.R_below hR.out hb1); have V1 := Sec.mk (Kd.V_below VT.out hb1 (by decide)); have k0 := hat.out _ hb1; clear hb1 hcell) | (clear T1; at_builtin; refine Kd.W_cat kCell rfl (.tmp 25) (.tmp 29) 24 (.agg #[.int .i64 0, .int .i64 0, .string ⟨#[]⟩]) 32 rfl Tryz.underlying24 info_cell rfl (by decide) (by decide) _ _ out t (fun k => w.heap.size ≤ k) ok rfl rfl (kCell_R_W ok R1.out) (Kd.V_mono V1.out (fun q hq => ⟨hq, fun e => by obtain ⟨_, _, _, h3⟩ := Kd.R_own R1.out; have h4 := (h3 q e.symm).1; have h5 := HOK.out q hq; omega⟩) (by decide)) (by omega) ?_; intro v2 w2 hW2 hg2; have R2 := Sec.mk (kCell_W_R hW2); have B2 := Sec.mk (B1.out.grown hg2 B1.out.size (fun q e => by obtain ⟨_, _, _, h3⟩ := Kd.R_own R1.out; exact (h3 q e).1)); clear hW2 hg2))
        go_roundw
        case rel => exact ⟨k + 1, out ++ t, by omega, by go_num, by rw [List.length_append]; omega, ⟨Kd.R_mono R2.out (fun q h _ => h.elim id (fun h => Nat.le_trans B1.out.size h))⟩, B2⟩
        case measure => simp [intOf]; omega
    · have HT := Sec.mk (TrmOk_c _ out _ wr (Kd.R_V hR.out))
      cases ht : trmOk out with
      | false =>
        rw [ht] at HT
        clear ht
        go_wp2_with (go_at_call 49; refine HT.out.mono ?_; rintro e w1 ⟨rfl, hb1⟩; have B1 := Sec.mk (bel hb.out hb1); clear hb1)
        go_ret
        exact ⟨_, [], rfl, by simp, Kd.R_mono (Kd.R_empty kCell (w := w1) (W := w1) (Nat.le_refl _)) (fun q h _ => Nat.le_trans B1.out.size h), belA B1.out _⟩
      | true =>
        rw [ht] at HT
        clear ht
        go_wp2_with (go_at_call 49; refine HT.out.mono ?_; rintro e w1 ⟨rfl, hb1⟩; have B1 := Sec.mk (bel hb.out hb1); have R1 := Sec.mk (Kd.R_below hR.out hb1); clear hb1)
        go_ret
        exact ⟨_, out, rfl, by omega, R1.out, B1.out⟩
end
section
open Go.RowKit
set_option linter.unusedVariables false
set_option maxRecDepth 100000
/-- The reader in block g, f turns ahead of the last. -/
def RI (w0 : World) (g PB : Nat) (f : Nat) (w : World) : Prop := ∃ P, Rd w0 w g P ∧ P + 400 * f ≤ PB
theorem RI.down {w0 : World} {g PB f : Nat} {w : World} (h : RI w0 g PB (f + 1) w) : RI w0 g PB f w := by
  obtain ⟨P, h1, h2⟩ := h
  exact ⟨P, h1, by omega⟩
theorem RI.below {w0 : World} {g PB f : Nat} {w w' : World} (h : RI w0 g PB f w) (hb : Below w.heap.size w w') : RI w0 g PB f w' := by
  obtain ⟨P, h1, h2⟩ := h
  exact ⟨P, h1.below hb, h2⟩
namespace Sh
variable {A : Nat → Ass} {eat : Nat → List Nat} {own : Nat → Nat → Prop} {i f : Nat} {o : Oper} {a : Act} {w w' w0 : World} {v : Value} {g PB P P' : Nat}
theorem rpost_pure (hI : RI w0 g PB (f + 1) w) (h : (A i).on (fun t => if o.dst = some t then v else slotsOf a t) (fun _ => False) w) : Post (fun k => k = g) (RI w0 g PB) f A eat own i o a w v w :=
  ⟨fun _ => False, Foot.refl _ _, hI.down, h, fun _ h => h.elim⟩
theorem rpost_new (hI : RI w0 g PB (f + 1) w) (hB : Below w.heap.size w w') (h : (A i).on (fun t => if o.dst = some t then v else slotsOf a t) (fun k => w.heap.size ≤ k ∧ k < w'.heap.size) w') : Post (fun k => k = g) (RI w0 g PB) f A eat own i o a w v w' :=
  ⟨fun k => w.heap.size ≤ k ∧ k < w'.heap.size, Foot.of_below hB, hI.down.below hB, h, fun k h => .inr h⟩
theorem rpost_rd (hPB : P + 400 * (f + 1) ≤ PB) (hR : Rd w0 w' g P') (hle : P' ≤ P + 400) (hO : Only g w w') (h : (A i).on (fun t => if o.dst = some t then v else slotsOf a t) (fun k => w.heap.size ≤ k ∧ k < w'.heap.size) w') : Post (fun k => k = g) (RI w0 g PB) f A eat own i o a w v w' :=
  ⟨fun k => w.heap.size ≤ k ∧ k < w'.heap.size, ⟨hO.os, hO.tape, hO.output, hO.size, fun k hk hn => hO.block k hk (fun e => hn (.inr e))⟩, ⟨P', hR, by omega⟩, h, fun k h => .inr h⟩
end Sh
section
variable {n0 : Nat} {T : Nat → Prop}
def onTab (t : Nat) (cs : Array Value) (ty : TypeId) (n : Nat) : On := fun val S w => ∃ b, val t = .slice (some ⟨b, 0, none⟩) n n ∧ w.heap[b]? = some (.cells cs ty (0, 0)) ∧ S b
theorem stab_tab (t : Nat) (cs : Array Value) (ty : TypeId) (n : Nat) : (Ass.mk [t] (onTab t cs ty n)).Stab n0 T := fun val val' S w w' h hs hk _ => by
  obtain ⟨b, h1, h2, h3⟩ := h
  exact ⟨b, (hs t (by simp)).trans h1, (hk b (.inl h3) (Array.getElem?_eq_some_iff.1 h2).1).trans h2, h3⟩
def onPt (t : Nat) (cs : Array Value) (ty : TypeId) (n : Nat) : On := fun val S w => ∃ b k, val t = .pointer (some ⟨b, k, none⟩) ∧ w.heap[b]? = some (.cells cs ty (0, 0)) ∧ S b ∧ k < n
theorem stab_pt (t : Nat) (cs : Array Value) (ty : TypeId) (n : Nat) : (Ass.mk [t] (onPt t cs ty n)).Stab n0 T := fun val val' S w w' h hs hk _ => by
  obtain ⟨b, k, h1, h2, h3, h4⟩ := h
  exact ⟨b, k, (hs t (by simp)).trans h1, (hk b (.inl h3) (Array.getElem?_eq_some_iff.1 h2).1).trans h2, h3, h4⟩
/-- Some places, no more than n. -/
def onT (t n : Nat) : On := fun val S w => ∃ x : Term, x.length ≤ n ∧ kCell.R w S (val t) x
theorem stab_T (t n : Nat) : (Ass.mk [t] (onT t n)).Stab n0 T := fun val val' S w w' h hs hk _ => by
  obtain ⟨x, h1, h2⟩ := h
  rw [← hs t (by simp)] at h2
  exact ⟨x, h1, Kd.R_move (fun k h1 h2 => ⟨h1, hk k (.inl h1) h2⟩) h2⟩
def onTs (t n : Nat) : On := fun val S w => ∃ x : List Term, x.length ≤ n ∧ (∀ y ∈ x, y.length ≤ 100) ∧ kTerms.R w S (val t) x
theorem stab_Ts (t n : Nat) : (Ass.mk [t] (onTs t n)).Stab n0 T := fun val val' S w w' h hs hk _ => by
  obtain ⟨x, h1, h0, h2⟩ := h
  rw [← hs t (by simp)] at h2
  exact ⟨x, h1, h0, Kd.R_move (fun k h1 h2 => ⟨h1, hk k (.inl h1) h2⟩) h2⟩
end
theorem Foot.only {g : Nat} {w w' : World} (h : Foot (fun k => k = g) w.drew w') : Only g w w' := ⟨h.os, h.tape, h.output, h.size, fun k hk hn => h.block k hk hn⟩
/-- Two rows as a row. -/
theorem terms_two {W : World} {S1 S2 : Nat → Prop} {v1 v2 : Value} {t1 t2 : Term} (h1 : kCell.R W S1 v1 t1) (h2 : kCell.R W S2 v2 t2) (hd : ∀ k, S1 k → ¬ S2 k) (hs1 : ∀ k, S1 k → k < W.heap.size) (hs2 : ∀ k, S2 k → k < W.heap.size) :
    kTerms.R (W.alloc (.cells #[v1, v2] 24)) (fun k => S1 k ∨ S2 k ∨ (W.heap.size ≤ k ∧ k < (W.alloc (.cells #[v1, v2] 24)).heap.size)) (.slice (some ⟨W.heap.size, 0, none⟩) 2 2) [t1, t2] := by
  refine ⟨by simp, .inr ⟨W.heap.size, 2, #[v1, v2], rfl, heap_alloc_new W _, .inr (.inr ⟨Nat.le_refl _, by simp⟩), Nat.le_refl _, by decide, rfl, ?_⟩⟩
  refine ⟨S1, S2, [v1], [v2], rfl, fun k h => ⟨⟨.inl h, fun e => by have := hs1 k h; omega⟩, hd k h⟩, fun k h => ⟨.inr (.inl h), fun e => by have := hs2 k h; omega⟩, ⟨v1, rfl, Kd.R_below h1 (belA (Below.refl _ _) _)⟩, ?_⟩
  exact ⟨S2, fun _ => False, [v2], [], rfl, fun k h => ⟨h, id⟩, fun k h => h.elim, ⟨v2, rfl, Kd.R_below h2 (belA (Below.refl _ _) _)⟩, rfl⟩
set_option maxHeartbeats 1000000 in
theorem head_c (w0 w : World) (g P : Nat) (hR : Rd w0 w g P) (hP : P ≤ 999990000) :
    Calls Tryz.prog 201 #[.pointer (some ⟨g, 0, none⟩)] w fun e w' => ∃ (u : Value) (t : Term), e = .returned u ∧ t.length ≤ 20000 ∧ kCell.R w' (fun k => w.heap.size ≤ k) u t ∧ Rd w0 w' g (P + 5000) ∧ Only g w w' := by
  obtain ⟨PB, hPB⟩ : ∃ n, n = P + 5000 := ⟨_, rfl⟩
  go_enter Tryz.func201, Tryz.ntmps201
  go_wp2
  refine Sh.wp_region_lists (G := fun k => k = g) (I := RI w0 g PB) [[3], [4], [5], [6], [7], [8], [9], [10], [11], [12], [13], [2]]
    [onTab 3 #[.string ⟨#[101]⟩, .string ⟨#[112]⟩, .string ⟨#[104]⟩] 9 3,
      fun val _ _ => val 4 = .pointer (some ⟨g, 0, none⟩),
      fun val _ _ => ∃ r : Int, val 5 = .int .i64 r ∧ (0 ≤ r ∧ r < 3),
      onPt 6 #[.string ⟨#[101]⟩, .string ⟨#[112]⟩, .string ⟨#[104]⟩] 9 3,
      fun val _ _ => ∃ x : ByteArray, val 7 = .string x ∧ x.size ≤ 8,
      fun val _ _ => val 8 = .pointer (some ⟨g, 0, none⟩),
      onT 9 40,
      fun val _ _ => val 10 = .pointer (some ⟨g, 0, none⟩),
      onT 11 40,
      onTs 12 100,
      onT 13 20000,
      onT 2 20000]
    [[], [], [], [0], [], [], [], [], [], [6, 8], [], [10]] 0 (fun k => k = g) (fun _ _ => False) (by kernel_rfl) ⟨by kernel_rfl, by kernel_rfl, by kernel_rfl, by kernel_rfl, by kernel_rfl⟩
    (.cons (stab_tab 3 #[.string ⟨#[101]⟩, .string ⟨#[112]⟩, .string ⟨#[104]⟩] 9 3) (.cons (stab_val 4 (fun v => v = .pointer (some ⟨g, 0, none⟩))) (.cons (stab_val 5 (fun v => ∃ r : Int, v = .int .i64 r ∧ (0 ≤ r ∧ r < 3))) (.cons (stab_pt 6 #[.string ⟨#[101]⟩, .string ⟨#[112]⟩, .string ⟨#[104]⟩] 9 3) (.cons (stab_val 7 (fun v => ∃ x : ByteArray, v = .string x ∧ x.size ≤ 8)) (.cons (stab_val 8 (fun v => v = .pointer (some ⟨g, 0, none⟩))) (.cons (stab_T 9 40) (.cons (stab_val 10 (fun v => v = .pointer (some ⟨g, 0, none⟩))) (.cons (stab_T 11 40) (.cons (stab_Ts 12 100) (.cons (stab_T 13 20000) (.cons (stab_T 2 20000) .nil))))))))))))
    (fun i j k h1 h2 => h1.elim) (fun i k h => h.elim) (fun i h1 h2 => by simp at h1 h2; omega) (fun k h => ⟨h, by rw [h]; exact hR.lt⟩) (fun f w h => RI.down h) ⟨P, hR.below (belD (Below.refl _ _)), by simp; omega⟩ (fun i k h => h.elim) (.cons ?_ (.cons ?_ (.cons ?_ (.cons ?_ (.cons ?_ (.cons ?_ (.cons ?_ (.cons ?_ (.cons ?_ (.cons ?_ (.cons ?_ (.cons ?_ .nil)))))))))))) ?_
  · intro a W own hfor huse hap hmi hF hfree f hI K hK
    have ec0 : a.eval (.const (.string ⟨#[101]⟩)) = .string ⟨#[101]⟩ := rfl
    have ec1 : a.eval (.const (.string ⟨#[112]⟩)) = .string ⟨#[112]⟩ := rfl
    have ec2 : a.eval (.const (.string ⟨#[104]⟩)) = .string ⟨#[104]⟩ := rfl
    refine op_val (.slice (some ⟨W.heap.size, 0, none⟩) 3 3) (W.alloc (.cells #[.string ⟨#[101]⟩, .string ⟨#[112]⟩, .string ⟨#[104]⟩] 9)) rfl ?_ (hK _ _ (Sh.rpost_new hI (belA (Below.refl _ _) _) ⟨W.heap.size, if_pos rfl, heap_alloc_new W _, Nat.le_refl _, by simp⟩))
    · clear hfor huse hap hmi hK hF
      generalize a.eval = ρ at *
      go_simp
  · intro a W own hfor huse hap hmi hF hfree f hI K hK
    have e0 : a.eval (.tmp 0) = .pointer (some ⟨g, 0, none⟩) := hfor 0 (by kernel_rfl)
    refine op_val (.pointer (some ⟨g, 0, none⟩)) W rfl ?_ (hK _ _ (Sh.rpost_pure hI ?_))
    · clear hfor huse hap hmi hK hF
      generalize a.eval = ρ at *
      go_simp
    · exact (if_pos rfl)
  · intro a W own hfor huse hap hmi hF hfree f hI K hK
    have e4 : a.eval (.tmp 4) = .pointer (some ⟨g, 0, none⟩) := huse 1 (by kernel_rfl)
    have efn : a.eval (.func 54) = .func (.func 54) #[] #[] := rfl
    have ec : a.eval (.const (.int .i64 3)) = .int .i64 3 := rfl
    obtain ⟨P, hRd, hPB⟩ := hI
    refine op_call (f := 54) (args := #[.pointer (some ⟨g, 0, none⟩), .int .i64 3]) (fun v w1 => ∃ r : Int, v = .int .i64 r ∧ (0 ≤ r ∧ r < 3) ∧ Rd w0 w1 g (P + 1) ∧ Only g W w1) rfl ?_ ?_ (fun v w1 h => ?_)
    · clear hfor huse hap hmi hK hF
      generalize a.eval = ρ at *
      go_simp
    · exact (pick_c w0 W g P 3 hRd (by omega)).mono (by rintro e w1 ⟨r, rfl, ⟨q0, q1, _⟩, h1, h2⟩; exact ⟨_, rfl, r, rfl, ⟨q0, q1 (by omega)⟩, h1, h2⟩)
    · obtain ⟨r, rfl, hr, h1, h2⟩ := h
      exact hK _ _ (Sh.rpost_rd hPB h1 (by omega) h2 ⟨r, if_pos rfl, hr⟩)
  · intro a W own hfor huse hap hmi hF hfree f hI K hK
    obtain ⟨b, e3, hb, hSb⟩ := (huse 0 (by kernel_rfl) : onTab 3 #[.string ⟨#[101]⟩, .string ⟨#[112]⟩, .string ⟨#[104]⟩] 9 3 (slotsOf a) (own 0) W)
    have e3 : a.eval (.tmp 3) = .slice (some ⟨b, 0, none⟩) 3 3 := e3
    obtain ⟨r, e5, hr0, hr1⟩ : ∃ r : Int, a.eval (.tmp 5) = .int .i64 r ∧ (0 ≤ r ∧ r < 3) := huse 2 (by kernel_rfl)
    obtain ⟨k, rfl⟩ : ∃ k : Nat, r = (k : Int) := ⟨r.toNat, by omega⟩
    have hk : k < 3 := by omega
    refine op_val (.pointer (some ⟨b, k, none⟩)) W rfl ?_ (hK _ _ ⟨own 0, Foot.refl _ _, RI.down hI, ⟨b, k, if_pos rfl, hb, hSb, hk⟩, fun q h => .inl ⟨0, by decide, h⟩⟩)
    · clear hfor huse hap hmi hK hF
      generalize a.eval = ρ at *
      go_simp
  · intro a W own hfor huse hap hmi hF hfree f hI K hK
    obtain ⟨b, k, e6, hb, hSb, hk⟩ := (huse 3 (by kernel_rfl) : onPt 6 #[.string ⟨#[101]⟩, .string ⟨#[112]⟩, .string ⟨#[104]⟩] 9 3 (slotsOf a) (own 3) W)
    have e6 : a.eval (.tmp 6) = .pointer (some ⟨b, k, none⟩) := e6
    have X := (box_at hb).2.1
    rcases (show k = 0 ∨ k = 1 ∨ k = 2 by omega) with rfl | rfl | rfl
    · have c0 := X 0 _ rfl
      refine op_val (.string ⟨#[101]⟩) W rfl ?_ (hK _ _ (Sh.rpost_pure hI ⟨_, if_pos rfl, by decide⟩))
      clear hfor huse hap hmi hK hF X
      generalize a.eval = ρ at *
      go_simp
    · have c0 := X 1 _ rfl
      refine op_val (.string ⟨#[112]⟩) W rfl ?_ (hK _ _ (Sh.rpost_pure hI ⟨_, if_pos rfl, by decide⟩))
      clear hfor huse hap hmi hK hF X
      generalize a.eval = ρ at *
      go_simp
    · have c0 := X 2 _ rfl
      refine op_val (.string ⟨#[104]⟩) W rfl ?_ (hK _ _ (Sh.rpost_pure hI ⟨_, if_pos rfl, by decide⟩))
      clear hfor huse hap hmi hK hF X
      generalize a.eval = ρ at *
      go_simp
  · intro a W own hfor huse hap hmi hF hfree f hI K hK
    have e0 : a.eval (.tmp 0) = .pointer (some ⟨g, 0, none⟩) := hfor 0 (by kernel_rfl)
    refine op_val (.pointer (some ⟨g, 0, none⟩)) W rfl ?_ (hK _ _ (Sh.rpost_pure hI ?_))
    · clear hfor huse hap hmi hK hF
      generalize a.eval = ρ at *
      go_simp
    · exact (if_pos rfl)
  · intro a W own hfor huse hap hmi hF hfree f hI K hK
    have e8 : a.eval (.tmp 8) = .pointer (some ⟨g, 0, none⟩) := huse 5 (by kernel_rfl)
    have efn : a.eval (.func 137) = .func (.func 137) #[] #[] := rfl
    have ec : a.eval (.const (.int .i64 4)) = .int .i64 4 := rfl
    have ec2 : a.eval (.const (.int .i64 3)) = .int .i64 3 := rfl
    obtain ⟨P, hRd, hPB⟩ := hI
    refine op_call (f := 137) (args := #[.pointer (some ⟨g, 0, none⟩), .int .i64 4, .int .i64 3]) (fun v w1 => ∃ t : Term, t.length ≤ 40 ∧ kCell.R w1 (fun k => W.heap.size ≤ k) v t ∧ Rd w0 w1 g (P + 300) ∧ Only g W w1) rfl ?_ ?_ (fun v w1 h => ?_)
    · clear hfor huse hap hmi hK hF
      generalize a.eval = ρ at *
      go_simp
    · exact (term_c w0 W g P 4 3 hRd (by omega) (by omega) (by omega)).mono (by rintro e w1 ⟨u, t, rfl, h1, h2, h3, h4, h5, h6⟩; exact ⟨_, rfl, t, h3, h1, h5, h6⟩)
    · obtain ⟨t, hl, h0, h1, h2⟩ := h
      exact hK _ _ (Sh.rpost_rd hPB h1 (by omega) h2 ⟨t, hl, by show kCell.R _ _ (if _ then _ else _) t; rw [if_pos rfl]; exact Kd.R_mono h0 (fun k h3 h4 => ⟨h3, h4⟩)⟩)
  · intro a W own hfor huse hap hmi hF hfree f hI K hK
    have e0 : a.eval (.tmp 0) = .pointer (some ⟨g, 0, none⟩) := hfor 0 (by kernel_rfl)
    refine op_val (.pointer (some ⟨g, 0, none⟩)) W rfl ?_ (hK _ _ (Sh.rpost_pure hI ?_))
    · clear hfor huse hap hmi hK hF
      generalize a.eval = ρ at *
      go_simp
    · exact (if_pos rfl)
  · intro a W own hfor huse hap hmi hF hfree f hI K hK
    have e10 : a.eval (.tmp 10) = .pointer (some ⟨g, 0, none⟩) := huse 7 (by kernel_rfl)
    have efn : a.eval (.func 137) = .func (.func 137) #[] #[] := rfl
    have ec : a.eval (.const (.int .i64 4)) = .int .i64 4 := rfl
    have ec2 : a.eval (.const (.int .i64 3)) = .int .i64 3 := rfl
    obtain ⟨P, hRd, hPB⟩ := hI
    refine op_call (f := 137) (args := #[.pointer (some ⟨g, 0, none⟩), .int .i64 4, .int .i64 3]) (fun v w1 => ∃ t : Term, t.length ≤ 40 ∧ kCell.R w1 (fun k => W.heap.size ≤ k) v t ∧ Rd w0 w1 g (P + 300) ∧ Only g W w1) rfl ?_ ?_ (fun v w1 h => ?_)
    · clear hfor huse hap hmi hK hF
      generalize a.eval = ρ at *
      go_simp
    · exact (term_c w0 W g P 4 3 hRd (by omega) (by omega) (by omega)).mono (by rintro e w1 ⟨u, t, rfl, h1, h2, h3, h4, h5, h6⟩; exact ⟨_, rfl, t, h3, h1, h5, h6⟩)
    · obtain ⟨t, hl, h0, h1, h2⟩ := h
      exact hK _ _ (Sh.rpost_rd hPB h1 (by omega) h2 ⟨t, hl, by show kCell.R _ _ (if _ then _ else _) t; rw [if_pos rfl]; exact Kd.R_mono h0 (fun k h3 h4 => ⟨h3, h4⟩)⟩)
  · intro a W own hfor huse hap hmi hF hfree f hI K hK
    obtain ⟨t1, hl1, r1⟩ := (huse 6 (by kernel_rfl) : onT 9 40 (slotsOf a) (own 6) W)
    obtain ⟨t2, hl2, r2⟩ := (huse 8 (by kernel_rfl) : onT 11 40 (slotsOf a) (own 8) W)
    have r1 : kCell.R W (own 6) (a.eval (.tmp 9)) t1 := r1
    have r2 : kCell.R W (own 8) (a.eval (.tmp 11)) t2 := r2
    obtain ⟨B1, m1, e9, -, -⟩ := Kd.R_form r1
    obtain ⟨B2, m2, e11, -, -⟩ := Kd.R_form r2
    rw [e9] at r1
    rw [e11] at r2
    refine op_val (.slice (some ⟨W.heap.size, 0, none⟩) 2 2) (W.alloc (.cells #[.slice B1 t1.length m1, .slice B2 t2.length m2] 24)) rfl ?_ (hK _ _ ⟨fun k => own 6 k ∨ own 8 k ∨ (W.heap.size ≤ k ∧ k < (W.alloc (.cells #[.slice B1 t1.length m1, .slice B2 t2.length m2] 24)).heap.size), Foot.of_below (belA (Below.refl _ _) _), (RI.down hI).below (belA (Below.refl _ _) _), ?_, ?_⟩)
    · clear hfor huse hap hmi hK hF r1 r2
      generalize a.eval = ρ at *
      go_simp
    · refine ⟨[t1, t2], by simp, fun y hy => by simp at hy; rcases hy with rfl | rfl <;> omega, ?_⟩
      show kTerms.R _ _ (if _ then _ else _) _
      rw [if_pos rfl]
      exact terms_two r1 r2 (fun k h1 h2 => by have := hap 6 8 k h1 h2; omega) (fun k h => (hmi 6 k h).2) (fun k h => (hmi 8 k h).2)
    · intro k h
      rcases h with h | h | h
      · exact .inl ⟨6, by decide, h⟩
      · exact .inl ⟨8, by decide, h⟩
      · exact .inr h
  · intro a W own hfor huse hap hmi hF hfree f hI K hK
    obtain ⟨x, e7, hx⟩ : ∃ x : ByteArray, a.eval (.tmp 7) = .string x ∧ x.size ≤ 8 := huse 4 (by kernel_rfl)
    obtain ⟨ts, h1, h2, r3⟩ := (huse 9 (by kernel_rfl) : onTs 12 100 (slotsOf a) (own 9) W)
    have r3 : kTerms.R W (own 9) (a.eval (.tmp 12)) ts := r3
    have efn : a.eval (.func 245) = .func (.func 245) #[] #[] := rfl
    obtain ⟨v12, e12⟩ : ∃ v, a.eval (.tmp 12) = v := ⟨_, rfl⟩
    rw [e12] at r3
    refine op_call (f := 245) (args := #[.string x, v12]) (fun v w1 => ∃ t : Term, t.length ≤ 20000 ∧ kCell.R w1 (fun k => W.heap.size ≤ k) v t ∧ Below W.heap.size W w1) rfl ?_ ?_ (fun v w1 h => ?_)
    · clear hfor huse hap hmi hK hF r3
      generalize a.eval = ρ at *
      go_simp
    · exact (TrmMake_c x (by omega) v12 ts h1 h2 (own 9) W (Kd.R_V r3) (fun k h => (hmi 9 k h).2)).mono (by rintro e w1 ⟨u, t, rfl, h1, h2, h3⟩; exact ⟨_, rfl, t, h1, h2, h3⟩)
    · obtain ⟨t, hl, h0, h1⟩ := h
      exact hK _ _ (Sh.rpost_new hI h1 ⟨t, hl, by show kCell.R _ _ (if _ then _ else _) t; rw [if_pos rfl]; exact Kd.R_mono h0 (fun k h3 h4 => ⟨h3, h4⟩)⟩)
  · intro a W own hfor huse hap hmi hF hfree f hI K hK
    obtain ⟨t, hl, r⟩ := (huse 10 (by kernel_rfl) : onT 13 20000 (slotsOf a) (own 10) W)
    refine op_val (a.eval (.tmp 13)) W rfl ?_ (hK _ _ ⟨own 10, Foot.refl _ _, RI.down hI, ?_, fun k h => .inl ⟨10, by decide, h⟩⟩)
    · rfl
    · refine ⟨t, hl, ?_⟩
      show kCell.R _ _ (if _ then _ else _) t
      rw [if_pos rfl]
      exact r
  intro a' W own f' hf hI'
  have hsz := hf.st.size
  have hdf := hf.st.rest
  obtain ⟨⟨l⟩, df⟩ := a'
  have hl0 : l.length = 14 := hsz
  clear hsz
  obtain rfl : df = [] := hdf
  obtain ⟨x0, l0, rfl, hl1⟩ := lst_cons hl0
  clear hl0
  obtain ⟨x1, l1, rfl, hl2⟩ := lst_cons hl1
  clear hl1
  obtain ⟨x2, l2, rfl, hl3⟩ := lst_cons hl2
  clear hl2
  obtain ⟨x3, l3, rfl, hl4⟩ := lst_cons hl3
  clear hl3
  obtain ⟨x4, l4, rfl, hl5⟩ := lst_cons hl4
  clear hl4
  obtain ⟨x5, l5, rfl, hl6⟩ := lst_cons hl5
  clear hl5
  obtain ⟨x6, l6, rfl, hl7⟩ := lst_cons hl6
  clear hl6
  obtain ⟨x7, l7, rfl, hl8⟩ := lst_cons hl7
  clear hl7
  obtain ⟨x8, l8, rfl, hl9⟩ := lst_cons hl8
  clear hl8
  obtain ⟨x9, l9, rfl, hl10⟩ := lst_cons hl9
  clear hl9
  obtain ⟨x10, l10, rfl, hl11⟩ := lst_cons hl10
  clear hl10
  obtain ⟨x11, l11, rfl, hl12⟩ := lst_cons hl11
  clear hl11
  obtain ⟨x12, l12, rfl, hl13⟩ := lst_cons hl12
  clear hl12
  obtain ⟨x13, l13, rfl, hl14⟩ := lst_cons hl13
  clear hl13
  obtain rfl := List.eq_nil_of_length_eq_zero hl14
  have e0 := hf.st.kept 0 (by kernel_rfl)
  simp only [slotsOf, Act.eval, Array.getD_eq_getD_getElem?, List.getElem?_toArray, List.getElem?_cons_zero, Option.getD_some] at e0
  subst e0
  have e1 := hf.st.kept 1 (by kernel_rfl)
  simp only [slotsOf, Act.eval, Array.getD_eq_getD_getElem?, List.getElem?_toArray, List.getElem?_cons_succ, List.getElem?_cons_zero, Option.getD_some] at e1
  subst e1
  obtain ⟨t, hl, r⟩ := hf.at 11 (onT 2 20000) rfl (by kernel_rfl)
  have r : kCell.R W (own 11) x2 t := r
  obtain ⟨P', hR', hP'⟩ := hI'
  have HO := Sec.mk (Foot.only hf.st.foot)
  have HR := Sec.mk (hR'.mono (P' := P + 5000) (by omega))
  have HT : Sec (kCell.R W (fun k => w.heap.size ≤ k) x2 t) := ⟨Kd.R_mono r (fun k h _ => by
    rcases (hf.st.mine 11 k h).1 with h1 | h1
    · exact h1
    · exact (hf.st.free 11 k h h1).elim)⟩
  clear hf r hR' hP'
  go_wp2
  go_ret
  exact ⟨_, t, rfl, hl, HT.out, HR.out, HO.out⟩
end
end
end Go.Proofs.YtekiikmaaiekkaaGreatDoor
