/- The data of the program as Lean structures, and plain functions on them. No program in sight; and what goes with it. -/
import Derived.Below
import Derived.Lib.Bytealg
namespace Go.Proofs.YteflipoiiddkfaaGreatDoor
section
structure Cell where
  kind : Int
  n : Int
  name : ByteArray
theorem Cell.ext_iff (a b : Cell) : a = b ↔ a.kind = b.kind ∧ a.n = b.n ∧ a.name = b.name := by
  cases a; cases b; simp
instance : DecidableEq Cell := fun a b => decidable_of_iff _ (Cell.ext_iff a b).symm
abbrev Term := List Cell
structure Bind where
  v : Int
  term : Term
structure Goal where
  kind : Int
  a : Term
  b : Term
  c : Term
structure Clause where
  head : Term
  body : List Goal
structure Place where
  name : ByteArray
  n : Int
  node : Int
structure Prog where
  clauses : List Clause
  places : List Place
structure SGoal where
  goal : Goal
  cut : Int
structure SChoice where
  goals : List SGoal
  binds : List Bind
  vars : Int
  call : Term
  next : Int
structure SState where
  status : Int
  goals : List SGoal
  binds : List Bind
  vars : Int
  choices : List SChoice
  top : Term
  out : Term
structure TChoice where
  goals : List SGoal
  mark : Int
  vars : Int
  call : Term
  next : Int
  far : Int
structure TState where
  status : Int
  goals : List SGoal
  binds : List Bind
  vars : Int
  choices : List TChoice
  top : Term
  out : Term
structure SOut where
  status : Int
  term : Term
structure Msg where
  kind : Int
  from_ : Int
  top : Term
  n : Int
  out : SOut
structure Work where
  outs : List SOut
  want : Int
  asked : Bool
  slv : TState
structure Node where
  up : Bool
  works : List Work
structure NetM where
  to : Int
  bent : Bool
  bytes : List UInt8
structure World_ where
  prog : Prog
  nodes : List Node
  top : Term
  outs : List SOut
  net : List NetM
end
section
def inB (n lo hi : Int) : Bool := decide (lo ≤ n) && decide (n ≤ hi)
def small (b : UInt8) : Bool := decide (97 ≤ (b.toNat : Int)) && decide ((b.toNat : Int) ≤ 122)
def nameOk (s : ByteArray) : Bool := decide (1 ≤ s.size) && decide (s.size ≤ 8) && !(s.toList == [97, 110, 100]) && s.data.toList.all small
def cellOk (c : Cell) : Bool :=
  if c.kind = 1 then inB c.n 0 99999 && c.name.toList.isEmpty
  else if c.kind = 2 then inB c.n (-9999) 9999 && c.name.toList.isEmpty
  else if c.kind = 3 then inB c.n 0 3 && nameOk c.name
  else false
/-- How many arguments stand behind a place. -/
def arity (c : Cell) : Nat := if c.kind = 3 then c.n.toNat else 0
/-- What is left behind so many terms. -/
def skip : Nat → Term → Option Term
  | 0, t => some t
  | _ + 1, [] => none
  | m + 1, c :: r => skip (m + arity c) r
def trmOk (t : Term) : Bool := decide (1 ≤ t.length) && decide (t.length ≤ 40) && t.all cellOk && decide (skip 1 t = some [])

theorem take_all {α : Type} (p : α → Bool) (l : List α) (k : Nat) (h : k < l.length) : (l.take (k + 1)).all p = ((l.take k).all p && p l[k]) := by
  rw [List.take_succ_eq_append_getElem h, List.all_append, List.all_cons, List.all_nil, Bool.and_true]

theorem cellOk_arity {c : Cell} (h : cellOk c = true) : arity c ≤ 3 ∧ (c.kind = 3 → 0 ≤ c.n ∧ c.n ≤ 3) := by
  unfold cellOk at h
  unfold arity
  by_cases h3 : c.kind = 3
  · rw [if_neg (by omega), if_neg (by omega), if_pos h3] at h
    simp [inB] at h
    rw [if_pos h3]
    omega
  · rw [if_neg h3]
    exact ⟨by omega, fun e => absurd e h3⟩
/-- Where the term that begins at a place ends; -1, if it does not. -/
def endAt (t : Term) (at_ : Nat) : Int := match skip 1 (t.drop at_) with
  | some r => (t.length : Int) - r.length
  | none => -1
theorem skip_step {t : Term} {m j : Nat} (h : j < t.length) : skip (m + 1) (t.drop j) = skip (m + arity t[j]) (t.drop (j + 1)) := by
  rw [List.drop_eq_getElem_cons h]; rfl
theorem skip_out {t : Term} {m j : Nat} (h : t.length ≤ j) : skip (m + 1) (t.drop j) = none := by
  rw [List.drop_of_length_le h]; rfl
theorem skip_le : ∀ {m : Nat} {t r : Term}, skip m t = some r → r.length ≤ t.length
  | 0, t, r, h => by simp [skip] at h; simp [h]
  | m + 1, [], r, h => by simp [skip] at h
  | m + 1, c :: t, r, h => by
    have := skip_le (m := m + arity c) (t := t) (r := r) h
    simp; omega
termination_by _ t => t.length
theorem endAt_whole (t : Term) : decide (endAt t 0 = t.length) = decide (skip 1 t = some []) := by
  unfold endAt
  rw [List.drop_zero]
  cases h : skip 1 t with
  | none => simp
  | some r =>
    have := skip_le h
    cases r with
    | nil => simp
    | cons c r => simp at this; simp; omega

theorem take_foldl {α β : Type} (f : β → α → β) (b : β) (l : List α) (k : Nat) (h : k < l.length) : (l.take (k + 1)).foldl f b = f ((l.take k).foldl f b) l[k] := by
  rw [List.take_succ_eq_append_getElem h, List.foldl_append]; rfl
theorem take_map {α β : Type} (f : α → β) (l : List α) (k : Nat) (h : k < l.length) : (l.take (k + 1)).map f = (l.take k).map f ++ [f l[k]] := by
  rw [List.take_succ_eq_append_getElem h, List.map_append]; rfl
def freeStep (out : List Int) (c : Cell) : List Int := if c.kind = 1 ∧ ¬ c.n ∈ out then out ++ [c.n] else out
/-- The variables, each once, as they come first. -/
def free (t : Term) : List Int := t.foldl freeStep []
theorem foldl_free_len (t : Term) (out : List Int) : (t.foldl freeStep out).length ≤ out.length + t.length := by
  induction t generalizing out with
  | nil => simp
  | cons c r ih =>
    have := ih (freeStep out c)
    simp only [List.foldl_cons, List.length_cons]
    have : (freeStep out c).length ≤ out.length + 1 := by unfold freeStep; split <;> simp
    omega
theorem free_len (t : Term) : (free t).length ≤ t.length := by have := foldl_free_len t []; simpa [free] using this
/-- Where a number stands among some; -1, if it does not. -/
def place (l : List Int) (n : Int) : Int := if n ∈ l then (l.idxOf n : Int) else -1
def shiftC (n : Int) (c : Cell) : Cell := if c.kind = 1 then { c with n := Go.RowKit.wrap64 (c.n + n) } else c
def shifted (t : Term) (n : Int) : Term := t.map (shiftC n)
def canonC (fr : List Int) (c : Cell) : Cell := if c.kind = 1 then { c with n := place fr c.n } else c
def canon (t : Term) : Term := t.map (canonC (free t))
end
section
/-- What a variable is bound to. -/
def bget (s : List Bind) (v : Int) : Option Term := (s.find? (fun b => b.v == v)).map (·.term)
/-- A term, or what it is bound to, if it is a variable; so many steps at most. -/
def walkF (s : List Bind) : Nat → Term → Option Term
  | 0, _ => none
  | _ + 1, [] => some []
  | n + 1, c :: r => if c.kind = 1 then match bget s c.n with
      | none => some (c :: r)
      | some u => walkF s n u
    else some (c :: r)
def catO (f : Cell → Option Term) : Term → Option Term
  | [] => some []
  | c :: r => match f c, catO f r with
    | some a, some b => some (a ++ b)
    | _, _ => none
/-- A place with all that it is bound to in its place; so deep at most. -/
def fullC (s : List Bind) : Nat → Cell → Option Term
  | 0, c => if c.kind = 1 then match bget s c.n with
      | none => some [c]
      | some _ => none
    else some [c]
  | n + 1, c => if c.kind = 1 then match bget s c.n with
      | none => some [c]
      | some u => catO (fullC s n) u
    else some [c]
def fullF (s : List Bind) (n : Nat) (t : Term) : Option Term := catO (fullC s n) t
/-- A variable stands in a term. -/
def vin (v : Int) (t : Term) : Prop := ∃ c ∈ t, c.kind = 1 ∧ c.n = v
def vinB (v : Int) (t : Term) : Bool := t.any (fun c => c.kind == 1 && c.n == v)
theorem vinB_iff {v : Int} {t : Term} : vinB v t = true ↔ vin v t := by
  unfold vinB vin
  simp [List.any_eq_true, Bool.and_eq_true]
def vc (x : Int) : Cell := ⟨1, x, ⟨#[]⟩⟩
def sub (θ : Int → Term) (t : Term) : Term := t.flatMap (fun c => if c.kind = 1 then θ c.n else [c])
/-- Variables have no name. -/
def VN (t : Term) : Prop := ∀ c ∈ t, c.kind = 1 → c = vc c.n
theorem sub_nil (θ : Int → Term) : sub θ [] = [] := rfl
theorem sub_cons (θ : Int → Term) (c : Cell) (r : Term) : sub θ (c :: r) = (if c.kind = 1 then θ c.n else [c]) ++ sub θ r := rfl
theorem sub_append (θ : Int → Term) (t u : Term) : sub θ (t ++ u) = sub θ t ++ sub θ u := by simp [sub, List.flatMap_append]
theorem sub_vc (θ : Int → Term) (x : Int) : sub θ [vc x] = θ x := by simp [sub, vc]
theorem sub_id {t : Term} (h : VN t) : sub (fun x => [vc x]) t = t := by
  induction t with
  | nil => rfl
  | cons c r ih =>
    rw [sub_cons, ih (fun d hd => h d (List.mem_cons_of_mem _ hd))]
    split
    · rename_i hc
      rw [← h c List.mem_cons_self hc]; rfl
    · rfl
theorem sub_sub (θ φ : Int → Term) (t : Term) : sub θ (sub φ t) = sub (fun x => sub θ (φ x)) t := by
  induction t with
  | nil => rfl
  | cons c r ih =>
    rw [sub_cons, sub_append, ih, sub_cons]
    split
    · rfl
    · rename_i h
      rw [sub_cons, if_neg h, sub_nil, List.append_nil]
theorem vin_sub {θ : Int → Term} {v : Int} {t : Term} : vin v (sub θ t) ↔ ∃ x, vin x t ∧ vin v (θ x) := by
  constructor
  · rintro ⟨c, hc, h1, h2⟩
    obtain ⟨d, hd, hm⟩ := List.mem_flatMap.1 hc
    split at hm
    · rename_i hk
      exact ⟨d.n, ⟨d, hd, hk, rfl⟩, ⟨c, hm, h1, h2⟩⟩
    · rename_i hk
      rw [List.mem_singleton] at hm
      subst hm
      exact absurd h1 hk
  · rintro ⟨x, ⟨d, hd, hk, rfl⟩, ⟨c, hc, h1, h2⟩⟩
    exact ⟨c, List.mem_flatMap.2 ⟨d, hd, by rw [if_pos hk]; exact hc⟩, h1, h2⟩
theorem sub_congr {θ φ : Int → Term} {t : Term} (h : ∀ x, vin x t → θ x = φ x) : sub θ t = sub φ t := by
  induction t with
  | nil => rfl
  | cons c r ih =>
    rw [sub_cons, sub_cons, ih (fun x ⟨d, hd, h1⟩ => h x ⟨d, List.mem_cons_of_mem _ hd, h1⟩)]
    split
    · rename_i hk
      rw [h c.n ⟨c, List.mem_cons_self, hk, rfl⟩]
    · rfl
theorem sub_VN {θ : Int → Term} {t : Term} (ht : VN t) (h : ∀ x, VN (θ x)) : VN (sub θ t) := by
  intro c hc hk
  obtain ⟨d, hd, hm⟩ := List.mem_flatMap.1 hc
  split at hm
  · exact h _ c hm hk
  · rw [List.mem_singleton] at hm
    subst hm
    exact ht c hd hk
theorem vc_VN (x : Int) : VN [vc x] := by
  intro c hc _
  rw [List.mem_singleton] at hc
  subst hc; rfl
def single (v : Int) (t : Term) : Int → Term := fun x => if x = v then t else [vc x]
theorem sub_single {v : Int} {t u : Term} (hu : VN u) (h : ¬ vin v u) : sub (single v t) u = u := by
  rw [sub_congr (φ := fun x => [vc x]) (fun x hx => ?_), sub_id hu]
  unfold single
  rw [if_neg]
  rintro rfl
  exact h hx
/-- What all variables come to by bindings that were made one behind the other (the last first). -/
def sigR : List Bind → Int → Term
  | [] => fun x => [vc x]
  | b :: r => fun x => sub (single b.v (sub (sigR r) b.term)) (sigR r x)
def dom (s : List Bind) (v : Int) : Prop := ∃ b ∈ s, b.v = v
/-- Bindings as they are made: each of a variable that is unbound, to what does not lead to it (the last first). -/
inductive TriR : List Bind → Prop
  | nil : TriR []
  | cons {b : Bind} {r : List Bind} : TriR r → ¬ dom r b.v → VN b.term → ¬ vin b.v (sub (sigR r) b.term) → TriR (b :: r)
theorem sigR_out {r : List Bind} {x : Int} (h : ¬ dom r x) : sigR r x = [vc x] := by
  induction r with
  | nil => rfl
  | cons b r ih =>
    have h1 : ¬ dom r x := fun ⟨d, hd, e⟩ => h ⟨d, List.mem_cons_of_mem _ hd, e⟩
    have h2 : x ≠ b.v := fun e => h ⟨b, List.mem_cons_self, e.symm⟩
    simp only [sigR, ih h1, sub_vc, single, if_neg h2]
theorem sigR_VN {r : List Bind} (h : TriR r) : ∀ x, VN (sigR r x) := by
  induction h with
  | nil => exact fun x => vc_VN x
  | @cons b r h h1 h2 h3 ih =>
    intro x
    refine sub_VN (ih x) (fun y => ?_)
    unfold single
    split
    · exact sub_VN h2 ih
    · exact vc_VN y
theorem sigR_eq {r : List Bind} (h : TriR r) : ∀ b ∈ r, sigR r b.v = sub (sigR r) b.term := by
  induction h with
  | nil => intro b hb; simp at hb
  | @cons b r h h1 h2 h3 ih =>
    intro d hd
    have e0 : sigR (b :: r) = fun x => sub (single b.v (sub (sigR r) b.term)) (sigR r x) := rfl
    rcases List.mem_cons.1 hd with rfl | hd
    · have e1 : sub (sigR (d :: r)) d.term = sub (single d.v (sub (sigR r) d.term)) (sub (sigR r) d.term) := by rw [sub_sub]; rfl
      rw [e1, sub_single (sub_VN h2 (sigR_VN h)) h3, e0]
      simp only [sigR_out h1, sub_vc, single, if_pos]
    · have e1 : sub (sigR (b :: r)) d.term = sub (single b.v (sub (sigR r) b.term)) (sub (sigR r) d.term) := by rw [sub_sub]; rfl
      rw [e1, ← ih d hd]; rfl
/-- Values that fit all bindings. -/
def Solves (θ : Int → Term) (s : List Bind) : Prop := ∀ b ∈ s, θ b.v = sub θ b.term
theorem sigR_most {r : List Bind} (h : TriR r) {θ : Int → Term} (hs : Solves θ r) : ∀ x, sub θ (sigR r x) = θ x := by
  induction h with
  | nil => intro x; exact sub_vc θ x
  | @cons b r h h1 h2 h3 ih =>
    intro x
    have hr : Solves θ r := fun d hd => hs d (List.mem_cons_of_mem _ hd)
    have e1 : sub θ (sub (sigR r) b.term) = sub θ b.term := by rw [sub_sub]; exact sub_congr (fun y _ => ih hr y)
    show sub θ (sub (single b.v (sub (sigR r) b.term)) (sigR r x)) = θ x
    rw [sub_sub, ← ih hr x]
    refine sub_congr (fun y _ => ?_)
    unfold single
    split
    · rename_i e
      subst e
      rw [e1]; exact (hs b List.mem_cons_self).symm
    · exact sub_vc θ y
/-- The bindings in the order in which they were made. -/
def sig (s : List Bind) : Int → Term := sigR s.reverse
def Tri (s : List Bind) : Prop := TriR s.reverse
theorem dom_rev {s : List Bind} {v : Int} : dom s.reverse v ↔ dom s v := by
  simp [dom]
theorem bget_none {s : List Bind} {v : Int} : bget s v = none ↔ ¬ dom s v := by
  unfold bget dom
  rw [Option.map_eq_none_iff, List.find?_eq_none]
  constructor
  · rintro h ⟨b, hb, e⟩
    have := h b hb
    simp [e] at this
  · intro h b hb
    simp only [beq_iff_eq]
    exact fun e => h ⟨b, hb, e⟩
theorem bget_mem {s : List Bind} {v : Int} {t : Term} (h : bget s v = some t) : ∃ b ∈ s, b.v = v ∧ b.term = t := by
  unfold bget at h
  obtain ⟨b, hb, rfl⟩ := Option.map_eq_some_iff.1 h
  refine ⟨b, List.mem_of_find?_eq_some hb, ?_, rfl⟩
  have := List.find?_some hb
  simpa using this
theorem sig_out {s : List Bind} {v : Int} (h : bget s v = none) : sig s v = [vc v] := sigR_out (by rw [dom_rev]; exact bget_none.1 h)
theorem sig_in {s : List Bind} (hs : Tri s) {v : Int} {t : Term} (h : bget s v = some t) : sig s v = sub (sig s) t := by
  obtain ⟨b, hb, rfl, rfl⟩ := bget_mem h
  exact sigR_eq hs b (by simpa using hb)
theorem Tri.nil : Tri [] := TriR.nil
theorem Tri.snoc {s : List Bind} (hs : Tri s) {v : Int} {t : Term} (h1 : bget s v = none) (h2 : VN t) (h3 : ¬ vin v (sub (sig s) t)) : Tri (s ++ [⟨v, t⟩]) := by
  unfold Tri
  rw [List.reverse_append]
  exact TriR.cons hs (fun h => bget_none.1 h1 (dom_rev.1 h)) h2 h3
theorem Tri.VN {s : List Bind} (hs : Tri s) : ∀ b ∈ s, VN b.term := by
  have : ∀ r : List Bind, TriR r → ∀ b ∈ r, Go.Proofs.YteflipoiiddkfaaGreatDoor.VN b.term := by
    intro r hr
    induction hr with
    | nil => intro b hb; simp at hb
    | @cons b r h h1 h2 h3 ih =>
      intro d hd
      rcases List.mem_cons.1 hd with rfl | hd
      · exact h2
      · exact ih d hd
  exact fun b hb => this _ hs b (by simpa using hb)
theorem sig_most {s : List Bind} (hs : Tri s) {θ : Int → Term} (h : Solves θ s) (x : Int) : sub θ (sig s x) = θ x :=
  sigR_most hs (fun b hb => h b (by simpa using hb)) x
theorem sig_solves {s : List Bind} (hs : Tri s) : Solves (sig s) s := fun b hb => sigR_eq hs b (by simpa using hb)
theorem sub_most {s : List Bind} (hs : Tri s) {θ : Int → Term} (h : Solves θ s) (t : Term) : sub θ (sub (sig s) t) = sub θ t := by
  rw [sub_sub]; exact sub_congr (fun x _ => sig_most hs h x)
/-- Each variable that is bound is higher than all of what it is bound to. -/
theorem rank_ex {r : List Bind} (h : TriR r) : ∃ rk : Int → Nat, ∀ b ∈ r, ∀ x, vin x b.term → rk x < rk b.v := by
  induction h with
  | nil => exact ⟨fun _ => 0, fun b hb => by simp at hb⟩
  | @cons b r h h1 h2 h3 ih =>
    obtain ⟨rk, hrk⟩ := ih
    obtain ⟨M, hM⟩ : ∃ M, ∀ x, vin x b.term → rk x ≤ M := by
      have : ∀ t : Term, ∃ M, ∀ x, vin x t → rk x ≤ M := by
        intro t
        induction t with
        | nil => exact ⟨0, fun x ⟨c, hc, _⟩ => by simp at hc⟩
        | cons c t ih =>
          obtain ⟨M, hM⟩ := ih
          refine ⟨M + rk c.n, fun x ⟨d, hd, hk, e⟩ => ?_⟩
          rcases List.mem_cons.1 hd with rfl | hd
          · subst e; omega
          · have := hM x ⟨d, hd, hk, e⟩; omega
      exact this b.term
    refine ⟨fun y => if vinB b.v (sigR r y) then rk y + M + 1 else rk y, fun d hd x hx => ?_⟩
    rcases List.mem_cons.1 hd with rfl | hd
    · have e1 : vinB d.v (sigR r d.v) = true := by rw [sigR_out h1, vinB_iff]; exact ⟨_, List.mem_singleton.2 rfl, rfl, rfl⟩
      have e2 : ¬ vinB d.v (sigR r x) = true := fun e => h3 (vin_sub.2 ⟨x, hx, vinB_iff.1 e⟩)
      simp only [e1, if_true, if_neg e2]
      have := hM x hx
      omega
    · have h4 := hrk d hd x hx
      have e3 : vinB b.v (sigR r x) = true → vinB b.v (sigR r d.v) = true := fun e => by
        rw [sigR_eq h d hd, vinB_iff]; exact vin_sub.2 ⟨x, hx, vinB_iff.1 e⟩
      show (if vinB b.v (sigR r x) then rk x + M + 1 else rk x) < (if vinB b.v (sigR r d.v) then rk d.v + M + 1 else rk d.v)
      by_cases e : vinB b.v (sigR r x) = true
      · rw [if_pos e, if_pos (e3 e)]; omega
      · rw [if_neg e]; split <;> omega
theorem Tri.rank {s : List Bind} (h : Tri s) : ∃ rk : Int → Nat, ∀ v t, bget s v = some t → ∀ x, vin x t → rk x < rk v := by
  obtain ⟨rk, hrk⟩ := rank_ex h
  refine ⟨rk, fun v t hg x hx => ?_⟩
  obtain ⟨b, hb, rfl, rfl⟩ := bget_mem hg
  exact hrk b (by simpa using hb) x hx
end
section
/-- Places that are one term. -/
def Trm (t : Term) : Prop := skip 1 t = some []
theorem skip_zero (t : Term) : skip 0 t = some t := by cases t <;> rfl
theorem skip_add : ∀ (t : Term) (a b : Nat), skip (a + b) t = (skip a t).bind (skip b) := by
  intro t
  induction t with
  | nil =>
    intro a b
    cases a with
    | zero => simp [skip_zero]
    | succ a =>
      rw [show a + 1 + b = (a + b) + 1 by omega]; rfl
  | cons c r ih =>
    intro a b
    cases a with
    | zero => simp [skip_zero]
    | succ a =>
      rw [show a + 1 + b = (a + b) + 1 by omega]
      show skip (a + b + arity c) r = (skip (a + arity c) r).bind (skip b)
      rw [show a + b + arity c = (a + arity c) + b by omega, ih]
theorem skip_app : ∀ (t : Term) (m : Nat) (r u : Term), skip m t = some r → skip m (t ++ u) = some (r ++ u) := by
  intro t
  induction t with
  | nil =>
    intro m r u h
    cases m with
    | zero => rw [skip_zero] at h ⊢; cases h; rfl
    | succ m => cases h
  | cons c t ih =>
    intro m r u h
    cases m with
    | zero => rw [skip_zero] at h ⊢; cases h; rfl
    | succ m => exact ih (m + arity c) r u h
theorem skip_split : ∀ (t : Term) (m : Nat) (r : Term), skip m t = some r → ∃ u, t = u ++ r ∧ skip m u = some [] := by
  intro t
  induction t with
  | nil =>
    intro m r h
    cases m with
    | zero => rw [skip_zero] at h; cases h; exact ⟨[], rfl, rfl⟩
    | succ m => cases h
  | cons c t ih =>
    intro m r h
    cases m with
    | zero => rw [skip_zero] at h; cases h; exact ⟨[], rfl, rfl⟩
    | succ m =>
      obtain ⟨u, rfl, hu⟩ := ih (m + arity c) r h
      exact ⟨c :: u, rfl, hu⟩
theorem Trm.ne {t : Term} (h : Trm t) : t ≠ [] := by rintro rfl; cases h
theorem Trm.skip {t : Term} (h : Trm t) (r : Term) : skip 1 (t ++ r) = some r := skip_app t 1 [] r h
/-- A term ahead of others is told by its places. -/
theorem Trm.cancel {t u r q : Term} (ht : Trm t) (hu : Trm u) (h : t ++ r = u ++ q) : t = u ∧ r = q := by
  have h1 := ht.skip r
  rw [h, hu.skip q] at h1
  cases h1
  exact ⟨List.append_cancel_right h, rfl⟩
/-- How many places the first term of some has. -/
def cutAt (t : Term) : Nat := match skip 1 t with
  | some r => t.length - r.length
  | none => t.length
def argsN : Nat → Term → List Term
  | 0, _ => []
  | m + 1, t => t.take (cutAt t) :: argsN m (t.drop (cutAt t))
/-- The arguments of a term. -/
def args : Term → List Term
  | [] => []
  | c :: r => argsN (arity c) r
theorem cutAt_app {t : Term} (h : Trm t) (r : Term) : cutAt (t ++ r) = t.length := by
  unfold cutAt
  rw [h.skip r]
  simp
theorem argsN_spec : ∀ (m : Nat) (t r : Term), skip m t = some r → t = (argsN m t).flatten ++ r ∧ (argsN m t).length = m ∧ ∀ a ∈ argsN m t, Trm a := by
  intro m
  induction m with
  | zero =>
    intro t r h
    rw [skip_zero] at h; cases h
    exact ⟨rfl, rfl, fun a ha => by simp [argsN] at ha⟩
  | succ m ih =>
    intro t r h
    rw [Nat.add_comm, skip_add] at h
    obtain ⟨q, hq, hr⟩ := Option.bind_eq_some_iff.1 h
    obtain ⟨u, rfl, hu⟩ := skip_split _ _ _ hq
    have hu : Trm u := hu
    have e := cutAt_app hu q
    have e1 : argsN (m + 1) (u ++ q) = u :: argsN m q := by
      simp only [argsN, e, List.take_left, List.drop_left]
    obtain ⟨h1, h2, h3⟩ := ih q r hr
    rw [e1]
    refine ⟨?_, by rw [List.length_cons, h2], fun a ha => ?_⟩
    · rw [List.flatten_cons, List.append_assoc, ← h1]
    · rcases List.mem_cons.1 ha with rfl | ha
      · exact hu
      · exact h3 a ha
/-- A term is its first place and its arguments. -/
theorem Trm.eq {c : Cell} {r : Term} (h : Trm (c :: r)) : r = (args (c :: r)).flatten ∧ (args (c :: r)).length = arity c ∧ ∀ a ∈ args (c :: r), Trm a := by
  have h1 : Go.Proofs.YteflipoiiddkfaaGreatDoor.skip (arity c) r = some [] := by
    have : Go.Proofs.YteflipoiiddkfaaGreatDoor.skip (0 + arity c) r = some [] := h
    rwa [Nat.zero_add] at this
  obtain ⟨h2, h3, h4⟩ := argsN_spec (arity c) r [] h1
  rw [List.append_nil] at h2
  exact ⟨h2, h3, h4⟩
theorem Trm.of {c : Cell} {l : List Term} (hl : l.length = arity c) (h : ∀ a ∈ l, Trm a) : Trm (c :: l.flatten) := by
  have : ∀ (l : List Term), (∀ a ∈ l, Trm a) → Go.Proofs.YteflipoiiddkfaaGreatDoor.skip l.length l.flatten = some [] := by
    intro l
    induction l with
    | nil => intro _; rfl
    | cons a l ih =>
      intro h
      rw [List.length_cons, Nat.add_comm, skip_add, List.flatten_cons, (h a List.mem_cons_self).skip]
      exact ih (fun b hb => h b (List.mem_cons_of_mem _ hb))
  show Go.Proofs.YteflipoiiddkfaaGreatDoor.skip (0 + arity c) l.flatten = some []
  rw [Nat.zero_add, ← hl]
  exact this l h
theorem flat_cancel : ∀ (l m : List Term), l.length = m.length → (∀ a ∈ l, Trm a) → (∀ a ∈ m, Trm a) → l.flatten = m.flatten → l = m := by
  intro l
  induction l with
  | nil =>
    intro m h _ _ _
    cases m with
    | nil => rfl
    | cons => cases h
  | cons a l ih =>
    intro m h h1 h2 e
    cases m with
    | nil => cases h
    | cons b m =>
      rw [List.flatten_cons, List.flatten_cons] at e
      obtain ⟨e1, e2⟩ := Trm.cancel (h1 a List.mem_cons_self) (h2 b List.mem_cons_self) e
      subst e1
      rw [ih m (by simpa using h) (fun a ha => h1 a (List.mem_cons_of_mem _ ha)) (fun b hb => h2 b (List.mem_cons_of_mem _ hb)) e2]
theorem args_mk {c : Cell} {l : List Term} (hl : l.length = arity c) (h : ∀ a ∈ l, Trm a) : args (c :: l.flatten) = l := by
  obtain ⟨h1, h2, h3⟩ := (Trm.of hl h).eq
  exact flat_cancel _ _ (by omega) h3 h h1.symm
theorem Trm.var {c : Cell} {r : Term} (h : Trm (c :: r)) (hk : c.kind = 1) : r = [] := by
  have h1 := h.eq
  have h0 : arity c = 0 := by unfold arity; rw [if_neg (by omega)]
  rw [h0] at h1
  have := List.eq_nil_of_length_eq_zero h1.2.1
  rw [this] at h1
  exact h1.1
theorem args_len {t a : Term} (h : Trm t) (ha : a ∈ args t) : a.length < t.length := by
  cases t with
  | nil => exact absurd rfl h.ne
  | cons c r =>
    have h1 := h.eq.1
    have h2 : a.length ≤ (args (c :: r)).flatten.length := by
      obtain ⟨l1, l2, e⟩ := List.append_of_mem ha
      rw [e]; simp; omega
    rw [← h1] at h2
    simp; omega
theorem args_sub {t a : Term} (h : Trm t) (ha : a ∈ args t) : ∀ c ∈ a, c ∈ t := by
  cases t with
  | nil => exact absurd rfl h.ne
  | cons c r =>
    intro d hd
    have h1 := h.eq.1
    refine List.mem_cons_of_mem _ ?_
    rw [h1]
    exact List.mem_flatten.2 ⟨a, ha, hd⟩
theorem sub_flatten (θ : Int → Term) (l : List Term) : sub θ l.flatten = (l.map (sub θ)).flatten := by
  induction l with
  | nil => rfl
  | cons a l ih => rw [List.flatten_cons, sub_append, ih, List.map_cons, List.flatten_cons]
theorem sub_skip {θ : Int → Term} (hθ : ∀ x, Trm (θ x)) : ∀ (t : Term) (m : Nat) (r : Term), skip m t = some r → skip m (sub θ t) = some (sub θ r) := by
  intro t
  induction t with
  | nil =>
    intro m r h
    cases m with
    | zero => rw [skip_zero] at h; cases h; rfl
    | succ m => cases h
  | cons c t ih =>
    intro m r h
    cases m with
    | zero => rw [skip_zero] at h; cases h; rw [skip_zero]
    | succ m =>
      have h : skip (m + arity c) t = some r := h
      rw [sub_cons]
      split
      · rename_i hk
        have h0 : arity c = 0 := by unfold arity; rw [if_neg (by omega)]
        rw [h0] at h
        rw [Nat.add_comm, skip_add, (hθ c.n).skip]
        exact ih m r h
      · exact ih (m + arity c) r h
theorem sub_Trm {θ : Int → Term} (hθ : ∀ x, Trm (θ x)) {t : Term} (h : Trm t) : Trm (sub θ t) := sub_skip hθ t 1 [] h
theorem vc_Trm (x : Int) : Trm [vc x] := rfl
theorem sigR_Trm {r : List Bind} (h : ∀ b ∈ r, Trm b.term) : ∀ x, Trm (sigR r x) := by
  induction r with
  | nil => exact vc_Trm
  | cons b r ih =>
    have ih := ih (fun d hd => h d (List.mem_cons_of_mem _ hd))
    intro x
    refine sub_Trm (fun y => ?_) (ih x)
    unfold single
    split
    · exact sub_Trm ih (h b List.mem_cons_self)
    · exact vc_Trm y
theorem sig_Trm {s : List Bind} (h : ∀ b ∈ s, Trm b.term) (x : Int) : Trm (sig s x) := sigR_Trm (fun b hb => h b (by simpa using hb)) x
theorem args_subst {θ : Int → Term} (hθ : ∀ x, Trm (θ x)) {c : Cell} {r : Term} (h : Trm (c :: r)) (hk : c.kind ≠ 1) : sub θ (c :: r) = c :: ((args (c :: r)).map (sub θ)).flatten ∧ args (sub θ (c :: r)) = (args (c :: r)).map (sub θ) := by
  obtain ⟨h1, h2, h3⟩ := h.eq
  have e : sub θ (c :: r) = c :: ((args (c :: r)).map (sub θ)).flatten := by
    rw [sub_cons, if_neg hk, ← sub_flatten, ← h1]; rfl
  refine ⟨e, ?_⟩
  rw [e]
  exact args_mk (by rw [List.length_map, h2]) (fun a ha => by obtain ⟨b, hb, rfl⟩ := List.mem_map.1 ha; exact sub_Trm hθ (h3 b hb))
/-! #### walking and filling in -/
theorem catO_some {f : Cell → Option Term} {g : Cell → Term} : ∀ {t : Term}, (∀ c ∈ t, f c = some (g c)) → catO f t = some (t.flatMap g)
  | [], _ => rfl
  | c :: r, h => by
    rw [catO, h c List.mem_cons_self, catO_some (fun d hd => h d (List.mem_cons_of_mem _ hd))]; rfl
theorem fullC_ok {s : List Bind} (hs : Tri s) {rk : Int → Nat} (hr : ∀ v t, bget s v = some t → ∀ x, vin x t → rk x < rk v) : ∀ (N : Nat) (c : Cell), (c.kind = 1 → c = vc c.n ∧ rk c.n < N) → fullC s N c = some (if c.kind = 1 then sig s c.n else [c]) := by
  intro N
  induction N with
  | zero =>
    intro c h
    by_cases hk : c.kind = 1
    · exact absurd (h hk).2 (Nat.not_lt_zero _)
    · rw [fullC, if_neg hk, if_neg hk]
  | succ N ih =>
    intro c h
    by_cases hk : c.kind = 1
    · obtain ⟨h1, h2⟩ := h hk
      rw [fullC, if_pos hk, if_pos hk]
      cases hg : bget s c.n with
      | none => rw [sig_out hg, ← h1]
      | some u =>
        show catO (fullC s N) u = _
        rw [catO_some (g := fun c => if c.kind = 1 then sig s c.n else [c]) (fun d hd => ih d (fun hk2 => ?_)), sig_in hs hg]
        · rfl
        · obtain ⟨b, hb, _, rfl⟩ := bget_mem hg
          have := hr _ _ hg d.n ⟨d, hd, hk2, rfl⟩
          exact ⟨hs.VN b hb d hd hk2, by omega⟩
    · rw [fullC, if_neg hk, if_neg hk]
theorem fullF_ok {s : List Bind} (hs : Tri s) {t : Term} (ht : VN t) : ∃ n, fullF s n t = some (sub (sig s) t) := by
  obtain ⟨rk, hrk⟩ := hs.rank
  have : ∀ t : Term, ∃ n, ∀ x, vin x t → rk x < n := by
    intro t
    induction t with
    | nil => exact ⟨0, fun x ⟨c, hc, _⟩ => by simp at hc⟩
    | cons c t ih =>
      obtain ⟨M, hM⟩ := ih
      refine ⟨M + rk c.n + 1, fun x ⟨d, hd, hk, e⟩ => ?_⟩
      rcases List.mem_cons.1 hd with rfl | hd
      · subst e; omega
      · have := hM x ⟨d, hd, hk, e⟩; omega
  obtain ⟨n, hn⟩ := this t
  exact ⟨n, catO_some (fun c hc => fullC_ok hs hrk n c (fun hk => ⟨ht c hc hk, hn _ ⟨c, hc, hk, rfl⟩⟩))⟩
/-- What a term is at its beginning: a name, a number, or an unbound variable. -/
def Walked (s : List Bind) (t : Term) : Prop := ∃ c r, t = c :: r ∧ (c.kind = 1 → r = [] ∧ c = vc c.n ∧ bget s c.n = none)
structure Good (s : List Bind) : Prop where
  tri : Tri s
  trm : ∀ b ∈ s, Trm b.term
theorem walkF_ok {s : List Bind} (hs : Good s) {Q : Term → Prop} (hQ : ∀ b ∈ s, Q b.term) {t : Term} (ht : Trm t) (hv : VN t) (hq : Q t) : ∃ n u, walkF s n t = some u ∧ Walked s u ∧ Trm u ∧ VN u ∧ Q u ∧ sub (sig s) u = sub (sig s) t := by
  obtain ⟨rk, hrk⟩ := hs.tri.rank
  have : ∀ (N : Nat) (t : Term), Trm t → VN t → Q t → (∀ x, vin x t → rk x < N) → ∃ u, walkF s (N + 1) t = some u ∧ Walked s u ∧ Trm u ∧ VN u ∧ Q u ∧ sub (sig s) u = sub (sig s) t := by
    intro N
    induction N with
    | zero =>
      intro t ht hv hq hr
      cases t with
      | nil => exact absurd rfl ht.ne
      | cons c r =>
        by_cases hk : c.kind = 1
        · exact absurd (hr c.n ⟨c, List.mem_cons_self, hk, rfl⟩) (Nat.not_lt_zero _)
        · exact ⟨c :: r, by rw [walkF, if_neg hk], ⟨c, r, rfl, fun h => absurd h hk⟩, ht, hv, hq, rfl⟩
    | succ N ih =>
      intro t ht hv hq hr
      cases t with
      | nil => exact absurd rfl ht.ne
      | cons c r =>
        by_cases hk : c.kind = 1
        · have hr0 := ht.var hk
          subst hr0
          have hc := hv c List.mem_cons_self hk
          cases hg : bget s c.n with
          | none => exact ⟨[c], by rw [walkF, if_pos hk, hg], ⟨c, [], rfl, fun _ => ⟨rfl, hc, hg⟩⟩, ht, hv, hq, rfl⟩
          | some u =>
            obtain ⟨b, hb, hbv, hbt⟩ := bget_mem hg
            obtain ⟨x, h1, h2, h3, h4, h5, h6⟩ := ih u (hbt ▸ hs.trm b hb) (hbt ▸ hs.tri.VN b hb) (hbt ▸ hQ b hb) (fun y hy => by
              have := hrk _ _ hg y hy
              have := hr c.n ⟨c, List.mem_cons_self, hk, rfl⟩
              omega)
            refine ⟨x, by rw [walkF, if_pos hk, hg]; exact h1, h2, h3, h4, h5, ?_⟩
            rw [h6, sub_cons, if_pos hk, sub_nil, List.append_nil, sig_in hs.tri hg]
        · exact ⟨c :: r, by rw [walkF, if_neg hk], ⟨c, r, rfl, fun h => absurd h hk⟩, ht, hv, hq, rfl⟩
  obtain ⟨n, hn⟩ : ∃ n, ∀ x, vin x t → rk x < n := by
    clear hq hv ht this
    induction t with
    | nil => exact ⟨0, fun x ⟨c, hc, _⟩ => by simp at hc⟩
    | cons c t ih =>
      obtain ⟨M, hM⟩ := ih
      refine ⟨M + rk c.n + 1, fun x ⟨d, hd, hk, e⟩ => ?_⟩
      rcases List.mem_cons.1 hd with rfl | hd
      · subst e; omega
      · have := hM x ⟨d, hd, hk, e⟩; omega
  obtain ⟨u, hu⟩ := this n t ht hv hq hn
  exact ⟨n + 1, u, hu⟩
end
section
/-- A variable is bound, if what it is bound to does not lead to it; so deep at most. -/
def bindF (s : List Bind) (n : Nat) (v : Int) (t : Term) : Option (Option (List Bind)) := match fullF s n t with
  | none => none
  | some u => if vinB v u then some none else some (some (s ++ [⟨v, t⟩]))
def foldU (f : List Bind → Term → Term → Option (Option (List Bind))) : List Bind → List Term → List Term → Option (Option (List Bind))
  | s, a :: l, b :: m => match f s a b with
    | some (some s1) => foldU f s1 l m
    | o => o
  | s, _, _ => some (some s)
/-- Bindings by which two terms are the same (none: there are none); so deep at most. -/
def uniF : Nat → List Bind → Term → Term → Option (Option (List Bind))
  | 0, _, _, _ => none
  | n + 1, s, a, b => match walkF s n a, walkF s n b with
    | some (c :: x), some (d :: y) =>
      if c.kind = 1 then (if d = c then some (some s) else bindF s n c.n (d :: y))
      else if d.kind = 1 then bindF s n d.n (c :: x)
      else if c ≠ d then some none
      else foldU (uniF n) s (args (c :: x)) (args (d :: y))
    | _, _ => none
theorem catO_mono {f g : Cell → Option Term} (h : ∀ c u, f c = some u → g c = some u) : ∀ {t : Term} {u : Term}, catO f t = some u → catO g t = some u
  | [], u, e => e
  | c :: r, u, e => by
    rw [catO] at e ⊢
    cases h1 : f c with
    | none => rw [h1] at e; cases e
    | some a =>
      cases h2 : catO f r with
      | none => rw [h1, h2] at e; cases e
      | some b =>
        rw [h1, h2] at e
        rw [h c a h1, catO_mono h h2]; exact e
theorem fullC_zero (s : List Bind) (c : Cell) : fullC s 0 c = (if c.kind = 1 then match bget s c.n with
      | none => some [c]
      | some _ => none
    else some [c]) := by unfold fullC; rfl
theorem fullC_succ (s : List Bind) (n : Nat) (c : Cell) : fullC s (n + 1) c = (if c.kind = 1 then match bget s c.n with
      | none => some [c]
      | some u => catO (fullC s n) u
    else some [c]) := by rw [fullC] <;> cases bget s c.n <;> rfl
theorem fullC_mono {s : List Bind} : ∀ {n : Nat} {c : Cell} {u : Term}, fullC s n c = some u → fullC s (n + 1) c = some u := by
  intro n
  induction n with
  | zero =>
    intro c u e
    rw [fullC_zero] at e
    rw [fullC_succ]
    by_cases hk : c.kind = 1
    · rw [if_pos hk] at e ⊢
      cases hg : bget s c.n with
      | none => rw [hg] at e; exact e
      | some w => rw [hg] at e; cases e
    · rw [if_neg hk] at e ⊢; exact e
  | succ n ih =>
    intro c u e
    rw [fullC_succ] at e ⊢
    by_cases hk : c.kind = 1
    · rw [if_pos hk] at e ⊢
      cases hg : bget s c.n with
      | none => rw [hg] at e; exact e
      | some w => rw [hg] at e; exact catO_mono (fun d v h => ih h) e
    · rw [if_neg hk] at e ⊢; exact e
theorem fullF_mono {s : List Bind} {n m : Nat} (hm : n ≤ m) {t u : Term} (h : fullF s n t = some u) : fullF s m t = some u := by
  induction hm with
  | refl => exact h
  | step _ ih => exact catO_mono (fun c v hc => fullC_mono hc) ih
theorem walkF_mono {s : List Bind} {n m : Nat} (hm : n ≤ m) {t u : Term} (h : walkF s n t = some u) : walkF s m t = some u := by
  induction n generalizing m t with
  | zero => cases h
  | succ n ih =>
    obtain ⟨m, rfl⟩ : ∃ k, m = k + 1 := ⟨m - 1, by omega⟩
    cases t with
    | nil => exact h
    | cons c r =>
      rw [walkF] at h ⊢
      split at h
      · rename_i hk
        rw [if_pos hk]
        cases hg : bget s c.n with
        | none => rw [hg] at h; exact h
        | some w => rw [hg] at h; exact ih (by omega) h
      · rename_i hk
        rw [if_neg hk]; exact h
theorem bindF_mono {s : List Bind} {n m : Nat} (hm : n ≤ m) {v : Int} {t : Term} {r : Option (List Bind)} (h : bindF s n v t = some r) : bindF s m v t = some r := by
  unfold bindF at h ⊢
  cases hf : fullF s n t with
  | none => rw [hf] at h; cases h
  | some u => rw [hf] at h; rw [fullF_mono hm hf]; exact h
theorem foldU_mono {f g : List Bind → Term → Term → Option (Option (List Bind))} (h : ∀ s a b r, f s a b = some r → g s a b = some r) : ∀ (l m : List Term) (s : List Bind) (r : Option (List Bind)), foldU f s l m = some r → foldU g s l m = some r := by
  intro l
  induction l with
  | nil => intro m s r e; exact e
  | cons a l ih =>
    intro m s r e
    cases m with
    | nil => exact e
    | cons b m =>
      rw [foldU] at e ⊢
      cases h1 : f s a b with
      | none => rw [h1] at e; cases e
      | some o =>
        rw [h1] at e
        rw [h s a b o h1]
        cases o with
        | none => exact e
        | some s1 => exact ih m s1 r e
theorem uniF_mono : ∀ {n m : Nat}, n ≤ m → ∀ {s : List Bind} {a b : Term} {r : Option (List Bind)}, uniF n s a b = some r → uniF m s a b = some r := by
  intro n
  induction n with
  | zero => intro m _ s a b r h; cases h
  | succ n ih =>
    intro m hm s a b r h
    obtain ⟨m, rfl⟩ : ∃ k, m = k + 1 := ⟨m - 1, by omega⟩
    have hm : n ≤ m := by omega
    rw [uniF] at h ⊢
    cases h1 : walkF s n a with
    | none => rw [h1] at h; cases h
    | some x =>
      cases h2 : walkF s n b with
      | none => rw [h1, h2] at h; cases x <;> cases h
      | some y =>
        rw [h1, h2] at h
        rw [walkF_mono hm h1, walkF_mono hm h2]
        cases x with
        | nil => cases h
        | cons c x =>
          cases y with
          | nil => cases h
          | cons d y =>
            simp only at h ⊢
            split at h
            · rename_i hk
              rw [if_pos hk]
              split at h
              · rename_i he
                rw [if_pos he]; exact h
              · rename_i he
                rw [if_neg he]; exact bindF_mono hm h
            · rename_i hk
              rw [if_neg hk]
              split at h
              · rename_i he
                rw [if_pos he]; exact bindF_mono hm h
              · rename_i he
                rw [if_neg he]
                split at h
                · rename_i hc
                  rw [if_pos hc]; exact h
                · rename_i hc
                  rw [if_neg hc]
                  exact foldU_mono (fun s a b r e => ih hm e) _ _ _ _ h
/-! #### there is always an answer, and what it is -/
/-- How many of some variables are unbound. -/
def unb (V : List Int) (s : List Bind) : Nat := V.countP (fun v => (bget s v).isNone)
theorem bget_snoc (s : List Bind) (b : Bind) (v : Int) : bget (s ++ [b]) v = match bget s v with
    | some t => some t
    | none => if b.v = v then some b.term else none := by
  unfold bget
  rw [List.find?_append]
  cases h : s.find? (fun b => b.v == v) with
  | some x => simp
  | none =>
    by_cases e : b.v = v <;> simp [e]
theorem unb_snoc {V : List Int} {s : List Bind} {b : Bind} (hb : bget s b.v = none) (hV : b.v ∈ V) : unb V (s ++ [b]) < unb V s := by
  unfold unb
  have h : ∀ l : List Int, l.countP (fun v => (bget (s ++ [b]) v).isNone) ≤ l.countP (fun v => (bget s v).isNone) := by
    intro l
    refine List.countP_mono_left (fun x _ hx => ?_)
    rw [bget_snoc] at hx
    cases hs : bget s x with
    | none => rfl
    | some t => rw [hs] at hx; cases hx
  obtain ⟨l1, l2, e⟩ := List.append_of_mem hV
  rw [e, List.countP_append, List.countP_append, List.countP_cons, List.countP_cons]
  have h1 := h l1
  have h2 := h l2
  have h3 : (bget (s ++ [b]) b.v).isNone = false := by rw [bget_snoc, hb]; simp
  have h4 : (bget s b.v).isNone = true := by rw [hb]; rfl
  rw [h3, h4]
  simp only [if_true]
  simp
  omega
/-- One list of bindings goes on from another. -/
structure Ext (V : List Int) (Q : Term → Prop) (s s1 : List Bind) : Prop where
  good : Good s1
  pre : ∃ l, s1 = s ++ l
  q : ∀ b ∈ s1, Q b.term
  vs : ∀ b ∈ s1, b.v ∈ V ∧ ∀ x, vin x b.term → x ∈ V
  less : s1 = s ∨ unb V s1 < unb V s
theorem solves_pre {θ : Int → Term} {s l : List Bind} (h : Solves θ (s ++ l)) : Solves θ s := fun b hb => h b (List.mem_append_left _ hb)
theorem sub_len {θ : Int → Term} (hθ : ∀ x, θ x ≠ []) (t : Term) : t.length ≤ (sub θ t).length := by
  induction t with
  | nil => exact Nat.zero_le _
  | cons c r ih =>
    rw [sub_cons, List.length_append, List.length_cons]
    have : 1 ≤ (if c.kind = 1 then θ c.n else [c]).length := by
      split
      · exact List.length_pos_iff.2 (hθ _)
      · simp
    omega
theorem vin_len {θ : Int → Term} (hθ : ∀ x, θ x ≠ []) {v : Int} {t : Term} (h : vin v t) : (θ v).length + t.length ≤ (sub θ t).length + 1 := by
  induction t with
  | nil => obtain ⟨c, hc, _⟩ := h; simp at hc
  | cons c r ih =>
    rw [sub_cons, List.length_append, List.length_cons]
    have h1 : 1 ≤ (if c.kind = 1 then θ c.n else [c]).length := by
      split
      · exact List.length_pos_iff.2 (hθ _)
      · simp
    have h2 := sub_len hθ r
    obtain ⟨d, hd, hk, e⟩ := h
    rcases List.mem_cons.1 hd with rfl | hd
    · rw [if_pos hk, e]; omega
    · have := ih ⟨d, hd, hk, e⟩
      omega
/-- What unification gives: bindings by which both are the same, and no more than must be; or there are none. -/
structure UniOk (V : List Int) (Q : Term → Prop) (s : List Bind) (a b : Term) (r : Option (List Bind)) : Prop where
  yes : ∀ s1, r = some s1 → Ext V Q s s1 ∧ (∀ θ, (∀ x, Trm (θ x)) → Solves θ s → sub θ a = sub θ b → Solves θ s1) ∧ sub (sig s1) a = sub (sig s1) b
  no : r = none → ∀ θ, (∀ x, Trm (θ x)) → Solves θ s → sub θ a ≠ sub θ b
theorem bindF_ok {V : List Int} {Q : Term → Prop} {s : List Bind} (hs : Good s) (hq : ∀ b ∈ s, Q b.term) (hvs : ∀ b ∈ s, b.v ∈ V ∧ ∀ x, vin x b.term → x ∈ V) {v : Int} {t : Term} (hv : bget s v = none) (hvV : v ∈ V)
    (ht : Walked s t) (htt : Trm t) (htv : VN t) (htq : Q t) (htV : ∀ x, vin x t → x ∈ V) (hne : t ≠ [vc v]) : ∃ n r, bindF s n v t = some r ∧ UniOk V Q s [vc v] t r := by
  obtain ⟨n, hn⟩ := fullF_ok hs.tri htv
  have hnn : ∀ θ : Int → Term, (∀ x, Trm (θ x)) → ∀ x, θ x ≠ [] := fun θ h x => (h x).ne
  refine ⟨n, if vinB v (sub (sig s) t) = true then none else some (s ++ [⟨v, t⟩]), by unfold bindF; rw [hn]; simp only; split <;> rfl, ?_⟩
  by_cases hoc : vinB v (sub (sig s) t) = true
  · rw [if_pos hoc]
    refine ⟨fun s1 e => (by cases e), fun _ θ hθ hso e => ?_⟩
    have hoc := vinB_iff.1 hoc
    have h1 := vin_len (hnn θ hθ) hoc
    rw [sub_most hs.tri hso, ← e, sub_vc] at h1
    have h2 : (sub (sig s) t).length ≤ 1 := by omega
    obtain ⟨c, r, rfl, hc⟩ := ht
    by_cases hk : c.kind = 1
    · obtain ⟨rfl, e2, e3⟩ := hc hk
      rw [e2, sub_vc, sig_out e3] at hoc
      obtain ⟨d, hd, _, hdv⟩ := hoc
      rw [List.mem_singleton] at hd
      subst hd
      apply hne
      rw [e2]; rw [show v = c.n from hdv.symm]
    · have h3 := sub_len (fun x => (sig_Trm hs.trm x).ne) (t := r)
      rw [sub_cons, if_neg hk] at h2
      rw [sub_cons, if_neg hk] at hoc
      have h4 : sub (sig s) r = [] := by
        have h5 : (sub (sig s) r).length = 0 := by
          rw [List.length_append, List.length_singleton] at h2; omega
        exact List.eq_nil_of_length_eq_zero h5
      rw [h4] at hoc
      obtain ⟨d, hd, hdk, _⟩ := hoc
      rw [List.append_nil, List.mem_singleton] at hd
      subst hd
      exact hk hdk
  · rw [if_neg hoc]
    have htri : Tri (s ++ [⟨v, t⟩]) := hs.tri.snoc hv htv (fun h => hoc (vinB_iff.2 h))
    have hmem : ∀ (P : Bind → Prop), (∀ b ∈ s, P b) → P ⟨v, t⟩ → ∀ b ∈ s ++ [⟨v, t⟩], P b := fun P h1 h2 b hb => by
      rcases List.mem_append.1 hb with hb | hb
      · exact h1 b hb
      · rw [List.mem_singleton] at hb; subst hb; exact h2
    refine ⟨fun s1 e => ?_, fun e => by cases e⟩
    cases e
    refine ⟨⟨⟨htri, hmem _ hs.trm htt⟩, ⟨_, rfl⟩, hmem _ hq htq, hmem (fun b => b.v ∈ V ∧ ∀ x, vin x b.term → x ∈ V) hvs ⟨hvV, htV⟩, .inr (unb_snoc (b := ⟨v, t⟩) hv hvV)⟩, fun θ hθ hso e => ?_, ?_⟩
    · refine hmem _ hso ?_
      show θ v = sub θ t
      rw [← e, sub_vc]
    · rw [sub_vc]
      exact sig_solves htri ⟨v, t⟩ (List.mem_append_right _ (List.mem_singleton.2 rfl))
theorem foldU_ok {V : List Int} {Q : Term → Prop} (k : Nat)
    (IHk : ∀ (s : List Bind), Good s → (∀ b ∈ s, Q b.term) → (∀ b ∈ s, b.v ∈ V ∧ ∀ x, vin x b.term → x ∈ V) → unb V s < k → ∀ a b, Trm a → Trm b → VN a → VN b → Q a → Q b → (∀ x, vin x a → x ∈ V) → (∀ x, vin x b → x ∈ V) → ∃ n r, uniF n s a b = some r ∧ UniOk V Q s a b r)
    (m : Nat) (IHm : ∀ (s : List Bind), Good s → (∀ b ∈ s, Q b.term) → (∀ b ∈ s, b.v ∈ V ∧ ∀ x, vin x b.term → x ∈ V) → unb V s ≤ k → ∀ a b, (sub (sig s) a).length < m → Trm a → Trm b → VN a → VN b → Q a → Q b → (∀ x, vin x a → x ∈ V) → (∀ x, vin x b → x ∈ V) → ∃ n r, uniF n s a b = some r ∧ UniOk V Q s a b r) :
    ∀ (l l2 : List Term), l.length = l2.length → (∀ a ∈ l, Trm a ∧ VN a ∧ Q a ∧ ∀ x, vin x a → x ∈ V) → (∀ a ∈ l2, Trm a ∧ VN a ∧ Q a ∧ ∀ x, vin x a → x ∈ V) →
    ∀ (s : List Bind), Good s → (∀ b ∈ s, Q b.term) → (∀ b ∈ s, b.v ∈ V ∧ ∀ x, vin x b.term → x ∈ V) → unb V s ≤ k → (unb V s < k ∨ ∀ a ∈ l, (sub (sig s) a).length < m) →
    ∃ n r, foldU (uniF n) s l l2 = some r ∧ UniOk V Q s l.flatten l2.flatten r := by
  intro l
  induction l with
  | nil =>
    intro l2 hl _ _ s hs hq hv hk _
    cases l2 with
    | nil => exact ⟨0, some s, rfl, ⟨fun s1 e => by cases e; exact ⟨⟨hs, ⟨[], by simp⟩, hq, hv, .inl rfl⟩, fun θ _ h _ => h, rfl⟩, fun e => by cases e⟩⟩
    | cons => cases hl
  | cons a l ih =>
    intro l2 hl h1 h2 s hs hq hv hk hm
    cases l2 with
    | nil => cases hl
    | cons b l2 =>
      obtain ⟨a1, a2, a3, a4⟩ := h1 a List.mem_cons_self
      obtain ⟨b1, b2, b3, b4⟩ := h2 b List.mem_cons_self
      obtain ⟨n, r, hn, hr⟩ : ∃ n r, uniF n s a b = some r ∧ UniOk V Q s a b r := by
        rcases hm with hm | hm
        · exact IHk s hs hq hv hm a b a1 b1 a2 b2 a3 b3 a4 b4
        · exact IHm s hs hq hv hk a b (hm a List.mem_cons_self) a1 b1 a2 b2 a3 b3 a4 b4
      cases r with
      | none =>
        refine ⟨n, none, by rw [foldU, hn], fun s1 e => (by cases e), fun _ θ hθ hso e => ?_⟩
        rw [List.flatten_cons, List.flatten_cons, sub_append, sub_append] at e
        exact hr.no rfl θ hθ hso (Trm.cancel (sub_Trm hθ a1) (sub_Trm hθ b1) e).1
      | some s1 =>
        obtain ⟨hE, hmost, hsame⟩ := hr.yes s1 rfl
        have hk1 : unb V s1 ≤ k := by rcases hE.less with e | e; rw [e]; exact hk; omega
        obtain ⟨n2, r2, hn2, hr2⟩ := ih l2 (by simpa using hl) (fun x hx => h1 x (List.mem_cons_of_mem _ hx)) (fun x hx => h2 x (List.mem_cons_of_mem _ hx)) s1 hE.good hE.q hE.vs hk1 (by
          rcases hE.less with e | e
          · rw [e]
            exact hm.imp id (fun h x hx => h x (List.mem_cons_of_mem _ hx))
          · exact .inl (by omega))
        refine ⟨max n n2, r2, ?_, ⟨fun s2 e => ?_, fun e θ hθ hso e2 => ?_⟩⟩
        · rw [foldU, uniF_mono (Nat.le_max_left _ _) hn]
          exact foldU_mono (fun s a b r e => uniF_mono (Nat.le_max_right _ _) e) _ _ _ _ hn2
        · obtain ⟨hE2, hmost2, hsame2⟩ := hr2.yes s2 e
          have hpre : Solves (sig s2) s1 := by
            obtain ⟨l3, e3⟩ := hE2.pre
            have := sig_solves hE2.good.tri
            rw [e3] at this ⊢
            exact solves_pre this
          refine ⟨⟨hE2.good, ?_, hE2.q, hE2.vs, ?_⟩, fun θ hθ hso e2 => ?_, ?_⟩
          · obtain ⟨l3, e3⟩ := hE.pre
            obtain ⟨l4, e4⟩ := hE2.pre
            exact ⟨l3 ++ l4, by rw [e4, e3, List.append_assoc]⟩
          · rcases hE.less with e1 | e1
            · rw [← e1]; exact hE2.less
            · rcases hE2.less with e4 | e4
              · rw [e4]; exact .inr e1
              · exact .inr (by omega)
          · rw [List.flatten_cons, List.flatten_cons, sub_append, sub_append] at e2
            obtain ⟨e3, e4⟩ := Trm.cancel (sub_Trm hθ a1) (sub_Trm hθ b1) e2
            exact hmost2 θ hθ (hmost θ hθ hso e3) e4
          · rw [List.flatten_cons, List.flatten_cons, sub_append, sub_append, hsame2]
            congr 1
            rw [← sub_most hE.good.tri hpre a, hsame, sub_most hE.good.tri hpre b]
        · rw [List.flatten_cons, List.flatten_cons, sub_append, sub_append] at e2
          obtain ⟨e3, e4⟩ := Trm.cancel (sub_Trm hθ a1) (sub_Trm hθ b1) e2
          exact hr2.no e θ hθ (hmost θ hθ hso e3) e4
theorem UniOk.conv {V : List Int} {Q : Term → Prop} {s : List Bind} {a b x y : Term} {r : Option (List Bind)} (hs : Good s) (h : UniOk V Q s x y r) (ha : sub (sig s) x = sub (sig s) a) (hb : sub (sig s) y = sub (sig s) b) : UniOk V Q s a b r := by
  have hA : ∀ θ, Solves θ s → sub θ x = sub θ a := fun θ hso => by rw [← sub_most hs.tri hso x, ha, sub_most hs.tri hso a]
  have hB : ∀ θ, Solves θ s → sub θ y = sub θ b := fun θ hso => by rw [← sub_most hs.tri hso y, hb, sub_most hs.tri hso b]
  refine ⟨fun s1 e => ?_, fun e θ hθ hso e2 => h.no e θ hθ hso (by rw [hA θ hso, hB θ hso, e2])⟩
  obtain ⟨h1, h2, h3⟩ := h.yes s1 e
  have hpre : Solves (sig s1) s := by
    obtain ⟨l3, e3⟩ := h1.pre
    have := sig_solves h1.good.tri
    rw [e3] at this ⊢
    exact solves_pre this
  exact ⟨h1, fun θ hθ hso e2 => h2 θ hθ hso (by rw [hA θ hso, hB θ hso, e2]), by rw [← hA _ hpre, ← hB _ hpre, h3]⟩
theorem UniOk.swap {V : List Int} {Q : Term → Prop} {s : List Bind} {a b : Term} {r : Option (List Bind)} (h : UniOk V Q s a b r) : UniOk V Q s b a r :=
  ⟨fun s1 e => by obtain ⟨h1, h2, h3⟩ := h.yes s1 e; exact ⟨h1, fun θ hθ hso e2 => h2 θ hθ hso e2.symm, h3.symm⟩, fun e θ hθ hso e2 => h.no e θ hθ hso e2.symm⟩
theorem uni_ok {V : List Int} {Q : Term → Prop} (hQ : ∀ t, Q t → ∀ a ∈ args t, Q a) : ∀ (k : Nat) (s : List Bind), Good s → (∀ b ∈ s, Q b.term) → (∀ b ∈ s, b.v ∈ V ∧ ∀ x, vin x b.term → x ∈ V) → unb V s ≤ k →
    ∀ (m : Nat) (a b : Term), (sub (sig s) a).length < m → Trm a → Trm b → VN a → VN b → Q a → Q b → (∀ x, vin x a → x ∈ V) → (∀ x, vin x b → x ∈ V) → ∃ n r, uniF n s a b = some r ∧ UniOk V Q s a b r := by
  intro k
  induction k using Nat.strongRecOn with
  | ind k IHk =>
  have IHk2 : ∀ (s : List Bind), Good s → (∀ b ∈ s, Q b.term) → (∀ b ∈ s, b.v ∈ V ∧ ∀ x, vin x b.term → x ∈ V) → unb V s < k → ∀ a b, Trm a → Trm b → VN a → VN b → Q a → Q b → (∀ x, vin x a → x ∈ V) → (∀ x, vin x b → x ∈ V) → ∃ n r, uniF n s a b = some r ∧ UniOk V Q s a b r :=
    fun s h1 h2 h3 h4 a b => IHk (unb V s) h4 s h1 h2 h3 (Nat.le_refl _) ((sub (sig s) a).length + 1) a b (Nat.lt_succ_self _)
  intro s hs hq hv hk m
  induction m generalizing s with
  | zero => intro a b h; exact absurd h (Nat.not_lt_zero _)
  | succ m IHm =>
    intro a b hlen ha hb va vb qa qb wa wb
    have hVs : ∀ t u : Term, (∀ x, vin x t → x ∈ V) → sub (sig s) u = sub (sig s) t → True := fun _ _ _ _ => trivial
    let Q2 : Term → Prop := fun t => Q t ∧ ∀ x, vin x t → x ∈ V
    obtain ⟨n1, x, hx, wx, tx, vx, qx, ex⟩ := walkF_ok (Q := Q2) hs (fun b hb => ⟨hq b hb, (hv b hb).2⟩) ha va ⟨qa, wa⟩
    obtain ⟨n2, y, hy, wy, ty, vy, qy, ey⟩ := walkF_ok (Q := Q2) hs (fun b hb => ⟨hq b hb, (hv b hb).2⟩) hb vb ⟨qb, wb⟩
    suffices ∃ n r, (∀ N, n ≤ N → uniF (N + 1) s a b = some r) ∧ UniOk V Q s x y r by
      obtain ⟨n, r, h1, h2⟩ := this
      exact ⟨n + 1, r, h1 n (Nat.le_refl _), h2.conv hs ex ey⟩
    have hstart : ∀ N, max n1 n2 ≤ N → walkF s N a = some x ∧ walkF s N b = some y := fun N hN => ⟨walkF_mono (by omega) hx, walkF_mono (by omega) hy⟩
    obtain ⟨c, x0, rfl, hc⟩ := wx
    obtain ⟨d, y0, rfl, hd⟩ := wy
    have wx2 : Walked s (c :: x0) := ⟨c, x0, rfl, hc⟩
    have wy2 : Walked s (d :: y0) := ⟨d, y0, rfl, hd⟩
    by_cases hck : c.kind = 1
    · obtain ⟨rfl, ec, gc⟩ := hc hck
      by_cases hdc : d = c
      · subst hdc
        obtain ⟨rfl, _, _⟩ := hd hck
        refine ⟨max n1 n2, some s, fun N hN => ?_, ⟨fun s1 e => ?_, fun e => (by cases e)⟩⟩
        · obtain ⟨e1, e2⟩ := hstart N hN
          rw [uniF, e1, e2]
          simp only [if_pos hck, if_pos]
        · cases e
          exact ⟨⟨hs, ⟨[], by simp⟩, hq, hv, .inl rfl⟩, fun θ _ h _ => h, rfl⟩
      · have hcV : c.n ∈ V := qx.2 c.n ⟨c, List.mem_cons_self, hck, rfl⟩
        obtain ⟨n3, r, hr, hU⟩ := bindF_ok hs hq hv gc hcV wy2 ty vy qy.1 qy.2 (fun e => hdc (by
          rw [ec]; exact (List.cons.inj e).1))
        refine ⟨max (max n1 n2) n3, r, fun N hN => ?_, ?_⟩
        · obtain ⟨e1, e2⟩ := hstart N (by omega)
          rw [uniF, e1, e2]
          simp only [if_pos hck, if_neg hdc]
          exact bindF_mono (by omega) hr
        · rw [ec]; exact hU
    · by_cases hdk : d.kind = 1
      · obtain ⟨rfl, ed, gd⟩ := hd hdk
        have hdV : d.n ∈ V := qy.2 d.n ⟨d, List.mem_cons_self, hdk, rfl⟩
        obtain ⟨n3, r, hr, hU⟩ := bindF_ok hs hq hv gd hdV wx2 tx vx qx.1 qx.2 (fun e => hck (by
          rw [(List.cons.inj e).1]; rfl))
        refine ⟨max (max n1 n2) n3, r, fun N hN => ?_, ?_⟩
        · obtain ⟨e1, e2⟩ := hstart N (by omega)
          rw [uniF, e1, e2]
          simp only [if_neg hck, if_pos hdk]
          exact bindF_mono (by omega) hr
        · rw [ed]; exact hU.swap
      · by_cases hcd : c = d
        · subst hcd
          have tx1 := tx.eq
          have ty1 := ty.eq
          have hlx : (sub (sig s) (c :: x0)).length < m + 1 := by rw [ex]; exact hlen
          have hsz : ∀ a ∈ args (c :: x0), (sub (sig s) a).length < m := by
            intro a ha
            obtain ⟨e1, e2⟩ := args_subst (θ := sig s) (sig_Trm hs.trm) tx hck
            have h1 : sub (sig s) a ∈ args (sub (sig s) (c :: x0)) := by rw [e2]; exact List.mem_map.2 ⟨a, ha, rfl⟩
            have h2 := args_len (sub_Trm (sig_Trm hs.trm) tx) h1
            omega
          have hall : ∀ (t : Term), Trm t → VN t → Q t → (∀ x, vin x t → x ∈ V) → ∀ a ∈ args t, Trm a ∧ VN a ∧ Q a ∧ ∀ x, vin x a → x ∈ V := by
            intro t h1 h2 h3 h4 a ha
            have hsubm := args_sub h1 ha
            refine ⟨?_, fun e he => h2 e (hsubm e he), hQ t h3 a ha, fun x ⟨e, he, h5⟩ => h4 x ⟨e, hsubm e he, h5⟩⟩
            cases t with
            | nil => exact absurd rfl h1.ne
            | cons c r => exact h1.eq.2.2 a ha
          obtain ⟨n3, r, hr, hU⟩ := foldU_ok k IHk2 m (fun s h1 h2 h3 h4 a b => IHm s h1 h2 h3 h4 a b) (args (c :: x0)) (args (c :: y0)) (by rw [tx1.2.1, ty1.2.1]) (hall _ tx vx qx.1 qx.2) (hall _ ty vy qy.1 qy.2) s hs hq hv hk (.inr hsz)
          refine ⟨max (max n1 n2) n3, r, fun N hN => ?_, ?_⟩
          · obtain ⟨e1, e2⟩ := hstart N (by omega)
            rw [uniF, e1, e2]
            simp only [if_neg hck]
            rw [if_neg (by simp)]
            exact foldU_mono (fun s a b r e => uniF_mono (by omega) e) _ _ _ _ hr
          · rw [← tx1.1, ← ty1.1] at hU
            have hcons : ∀ (θ : Int → Term) (t u : Term), sub θ (c :: t) = sub θ (c :: u) ↔ sub θ t = sub θ u := fun θ t u => by
              rw [sub_cons, sub_cons, if_neg hck]; simp
            refine ⟨fun s1 e => ?_, fun e θ hθ hso e2 => hU.no e θ hθ hso ((hcons _ _ _).1 e2)⟩
            obtain ⟨h1, h2, h3⟩ := hU.yes s1 e
            exact ⟨h1, fun θ hθ hso e2 => h2 θ hθ hso ((hcons _ _ _).1 e2), (hcons _ _ _).2 h3⟩
        · refine ⟨max n1 n2, none, fun N hN => ?_, ⟨fun s1 e => (by cases e), fun _ θ hθ hso e => ?_⟩⟩
          · obtain ⟨e1, e2⟩ := hstart N hN
            rw [uniF, e1, e2]
            simp only [if_neg hck, if_neg hdk]
            rw [if_pos hcd]
          · rw [sub_cons, sub_cons, if_neg hck, if_neg hdk] at e
            exact hcd (List.cons.inj e).1
end
section
theorem ba_empty {s : ByteArray} (h : s.toList.isEmpty = true) : s = ⟨#[]⟩ := by
  rw [List.isEmpty_iff, Lib.toList_data] at h
  exact ByteArray.ext (by rw [← Array.toList_inj, h])
theorem cellOk_var {c : Cell} (h : cellOk c = true) (hk : c.kind = 1) : c = vc c.n ∧ 0 ≤ c.n ∧ c.n ≤ 99999 := by
  unfold cellOk at h
  rw [if_pos hk, Bool.and_eq_true] at h
  obtain ⟨h1, h2⟩ := h
  simp only [inB, Bool.and_eq_true, decide_eq_true_eq] at h1
  refine ⟨?_, h1.1, h1.2⟩
  rw [Cell.ext_iff]
  exact ⟨hk, rfl, ba_empty h2⟩
theorem trmOk_iff {t : Term} : trmOk t = true ↔ 1 ≤ t.length ∧ t.length ≤ 40 ∧ t.all cellOk = true ∧ Trm t := by
  unfold trmOk Trm
  simp only [Bool.and_eq_true, decide_eq_true_eq, and_assoc]
theorem trmOk_len {t : Term} (h : trmOk t = true) : 1 ≤ t.length ∧ t.length ≤ 40 := ⟨(trmOk_iff.1 h).1, (trmOk_iff.1 h).2.1⟩
theorem trmOk_cells {t : Term} (h : trmOk t = true) : t.all cellOk = true := (trmOk_iff.1 h).2.2.1
theorem trmOk_Trm {t : Term} (h : trmOk t = true) : Trm t := (trmOk_iff.1 h).2.2.2
theorem trmOk_cell {t : Term} (h : trmOk t = true) {c : Cell} (hc : c ∈ t) : cellOk c = true := List.all_eq_true.1 (trmOk_cells h) c hc
theorem trmOk_VN {t : Term} (h : trmOk t = true) : VN t := fun _ hc hk => (cellOk_var (trmOk_cell h hc) hk).1
theorem trmOk_args {t : Term} (h : trmOk t = true) : ∀ a ∈ args t, trmOk a = true := by
  intro a ha
  have h1 := trmOk_Trm h
  have h2 : Trm a := by
    cases t with
    | nil => exact absurd rfl h1.ne
    | cons c r => exact h1.eq.2.2 a ha
  refine trmOk_iff.2 ⟨List.length_pos_iff.2 h2.ne, ?_, List.all_eq_true.2 (fun c hc => trmOk_cell h (args_sub h1 ha c hc)), h2⟩
  have := args_len h1 ha
  have := (trmOk_len h).2
  omega
/-- All numbers of variables. -/
def allV : List Int := (List.range 100000).map Int.ofNat
theorem mem_allV {x : Int} : x ∈ allV ↔ 0 ≤ x ∧ x ≤ 99999 := by
  unfold allV
  rw [List.mem_map]
  constructor
  · rintro ⟨n, hn, rfl⟩
    have := List.mem_range.1 hn
    exact ⟨Int.natCast_nonneg n, by show (n : Int) ≤ 99999; omega⟩
  · rintro ⟨h1, h2⟩
    exact ⟨x.toNat, List.mem_range.2 (by omega), by show (x.toNat : Int) = x; omega⟩
theorem trmOk_V {t : Term} (h : trmOk t = true) : ∀ x, vin x t → x ∈ allV := fun x ⟨c, hc, hk, e⟩ => by
  rw [mem_allV, ← e]; exact (cellOk_var (trmOk_cell h hc) hk).2
/-- Bindings as they are made, of terms that are ok. -/
structure BOk (s : List Bind) : Prop where
  tri : Tri s
  trm : ∀ b ∈ s, trmOk b.term = true
  v : ∀ b ∈ s, 0 ≤ b.v ∧ b.v ≤ 99999
theorem BOk.nil : BOk [] := ⟨Tri.nil, fun b hb => by simp at hb, fun b hb => by simp at hb⟩
theorem BOk.good {s : List Bind} (h : BOk s) : Good s := ⟨h.tri, fun b hb => trmOk_Trm (h.trm b hb)⟩
/-- What unification gives. -/
structure UOk (s : List Bind) (a b : Term) (r : Option (List Bind)) : Prop where
  yes : ∀ s1, r = some s1 → BOk s1 ∧ (∃ l, s1 = s ++ l) ∧ (∀ θ, (∀ x, Trm (θ x)) → Solves θ s → sub θ a = sub θ b → Solves θ s1) ∧ sub (sig s1) a = sub (sig s1) b
  no : r = none → ∀ θ, (∀ x, Trm (θ x)) → Solves θ s → sub θ a ≠ sub θ b
theorem uni_total {s : List Bind} (hs : BOk s) {a b : Term} (ha : trmOk a = true) (hb : trmOk b = true) : ∃ n r, uniF n s a b = some r ∧ UOk s a b r := by
  obtain ⟨n, r, h, hU⟩ := uni_ok (V := allV) (Q := fun t => trmOk t = true) (fun t ht => trmOk_args ht) (unb allV s) s hs.good hs.trm (fun b hb => ⟨mem_allV.2 (hs.v b hb), trmOk_V (hs.trm b hb)⟩) (Nat.le_refl _) ((sub (sig s) a).length + 1) a b (Nat.lt_succ_self _)
    (trmOk_Trm ha) (trmOk_Trm hb) (trmOk_VN ha) (trmOk_VN hb) ha hb (trmOk_V ha) (trmOk_V hb)
  refine ⟨n, r, h, fun s1 e => ?_, hU.no⟩
  obtain ⟨h1, h2, h3⟩ := hU.yes s1 e
  exact ⟨⟨h1.good.tri, h1.q, fun b hb => mem_allV.1 (h1.vs b hb).1⟩, h1.pre, h2, h3⟩
theorem uniF_det {n m : Nat} {s : List Bind} {a b : Term} {r r2 : Option (List Bind)} (h : uniF n s a b = some r) (h2 : uniF m s a b = some r2) : r = r2 := by
  have e1 := uniF_mono (Nat.le_max_left n m) h
  have e2 := uniF_mono (Nat.le_max_right n m) h2
  rw [e1] at e2
  exact Option.some.inj e2
theorem uniF_ok {n : Nat} {s : List Bind} (hs : BOk s) {a b : Term} (ha : trmOk a = true) (hb : trmOk b = true) {r : Option (List Bind)} (h : uniF n s a b = some r) : UOk s a b r := by
  obtain ⟨m, r2, h2, hU⟩ := uni_total hs ha hb
  rw [uniF_det h h2]; exact hU
/-- Whether two terms can be the same hangs on no order. -/
theorem uni_swap {n m : Nat} {s : List Bind} (hs : BOk s) {a b : Term} (ha : trmOk a = true) (hb : trmOk b = true) {r r2 : Option (List Bind)} (h : uniF n s a b = some r) (h2 : uniF m s b a = some r2) : r.isSome = r2.isSome := by
  have h1 := uniF_ok hs ha hb h
  have h3 := uniF_ok hs hb ha h2
  cases r with
  | none =>
    cases r2 with
    | none => rfl
    | some s2 =>
      obtain ⟨k1, ⟨l, rfl⟩, _, k4⟩ := h3.yes s2 rfl
      exact absurd k4.symm (h1.no rfl _ (sig_Trm k1.good.trm) (solves_pre (sig_solves k1.tri)))
  | some s1 =>
    cases r2 with
    | some s2 => rfl
    | none =>
      obtain ⟨k1, ⟨l, rfl⟩, _, k4⟩ := h1.yes s1 rfl
      exact absurd k4.symm (h3.no rfl _ (sig_Trm k1.good.trm) (solves_pre (sig_solves k1.tri)))
theorem BOk.get {s : List Bind} (h : BOk s) {v : Int} {t : Term} (hg : bget s v = some t) : trmOk t = true := by
  obtain ⟨b, hb, _, rfl⟩ := bget_mem hg
  exact h.trm b hb
theorem walkF_trm {s : List Bind} (hs : BOk s) : ∀ {n : Nat} {t u : Term}, trmOk t = true → walkF s n t = some u → trmOk u = true := by
  intro n
  induction n with
  | zero => intro t u _ h; cases h
  | succ n ih =>
    intro t u ht h
    cases t with
    | nil => have := (trmOk_len ht).1; simp at this
    | cons c r =>
      rw [walkF] at h
      split at h
      · cases hg : bget s c.n with
        | none => rw [hg] at h; cases h; exact ht
        | some w => rw [hg] at h; exact ih (hs.get hg) h
      · cases h; exact ht
theorem walk_total {s : List Bind} (hs : BOk s) {t : Term} (ht : trmOk t = true) : ∃ n u, walkF s n t = some u ∧ trmOk u = true ∧ Walked s u ∧ sub (sig s) u = sub (sig s) t := by
  obtain ⟨n, u, h1, h2, h3, h4, h5, h6⟩ := walkF_ok (Q := fun t => trmOk t = true) hs.good hs.trm (trmOk_Trm ht) (trmOk_VN ht) ht
  exact ⟨n, u, h1, h5, h2, h6⟩
theorem full_total {s : List Bind} (hs : BOk s) {t : Term} (ht : trmOk t = true) : ∃ n, fullF s n t = some (sub (sig s) t) := fullF_ok hs.tri (trmOk_VN ht)
theorem fullF_det {s : List Bind} {n m : Nat} {t u w : Term} (h : fullF s n t = some u) (h2 : fullF s m t = some w) : u = w := by
  have e1 := fullF_mono (Nat.le_max_left n m) h
  have e2 := fullF_mono (Nat.le_max_right n m) h2
  rw [e1] at e2
  exact Option.some.inj e2
/-- No variable twice. -/
def Nd (s : List Bind) : Prop := s.Pairwise (fun a b => a.v ≠ b.v)
theorem Tri.nd {s : List Bind} (h : Tri s) : Nd s := by
  have : ∀ r : List Bind, TriR r → r.Pairwise (fun a b => b.v ≠ a.v) := by
    intro r hr
    induction hr with
    | nil => exact List.Pairwise.nil
    | @cons b r h h1 h2 h3 ih => exact List.Pairwise.cons (fun d hd e => h1 ⟨d, hd, e⟩) ih
  have h2 := this _ h
  rwa [List.pairwise_reverse] at h2
theorem bget_at {s : List Bind} (h : Nd s) {k : Nat} (hk : k < s.length) : bget s s[k].v = some s[k].term := by
  induction s generalizing k with
  | nil => simp at hk
  | cons b s ih =>
    obtain ⟨h1, h2⟩ := List.pairwise_cons.1 h
    cases k with
    | zero => simp [bget]
    | succ k =>
      simp only [List.getElem_cons_succ]
      have hk2 : k < s.length := by simpa using hk
      have h3 := ih h2 hk2
      have h4 := h1 _ (List.getElem_mem hk2)
      unfold bget at h3 ⊢
      rw [List.find?_cons_of_neg (by simpa using h4)]
      exact h3
end
end Go.Proofs.YteflipoiiddkfaaGreatDoor
