/- What may stand in a program, in plain Lean. -/
import Derived.Test.YtenigopoknajgaaGreatDoorQu
import Derived.Test.YtenigopoknajgaaGreatDoorXClause
import Derived.Test.YtenigopoknajgaaGreatDoorKProg
namespace Go.Proofs.YtenigopoknajgaaGreatDoor
open Go.RowKit
set_option linter.unusedVariables false
def varIn (x : Cell) : Bool := !(x.kind == 1 && decide (8 ≤ x.n))
def termIn (t : Term) : Bool := trmOk t && decide (t.length ≤ 12) && t.all varIn
def goalOk (g : Goal) : Bool :=
  if g.kind = 1 then termIn g.a && headFun g.a && decide (g.b.length + g.c.length = 0)
  else if g.kind = 3 then decide (g.a.length + g.b.length + g.c.length = 0)
  else if g.kind = 2 ∨ g.kind = 4 then termIn g.a && termIn g.b && decide (g.c.length = 0)
  else if g.kind = 5 then termIn g.a && termIn g.b && termIn g.c
  else false
def clauseOk (c : Clause) : Bool := termIn c.head && headFun c.head && decide (c.body.length ≤ 4) && c.body.all goalOk
def placeOk (p : Place) : Bool := nameOk p.name && inB p.n 0 3 && inB p.node 1 2
def samePlace (p q : Place) : Bool := p.name.toList == q.name.toList && p.n == q.n
def newAt (l : List Place) (k : Nat) : Bool := match l[k]? with
  | some x => placeOk x && (l.take k).all (fun q => !samePlace q x)
  | none => true
def placesOk (l : List Place) : Bool := (List.range l.length).all (newAt l)
def prgOk (p : Prog) : Bool := decide (p.clauses.length ≤ 12) && decide (p.places.length ≤ 6) && p.clauses.all clauseOk && placesOk p.places
theorem newAt_at {l : List Place} {k : Nat} (h : k < l.length) : newAt l k = (placeOk l[k] && (l.take k).all (fun q => !samePlace q l[k])) := by
  unfold newAt; rw [List.getElem?_eq_getElem h]
theorem range_all {p : Nat → Bool} (k : Nat) : (List.range (k + 1)).all p = ((List.range k).all p && p k) := by
  rw [List.range_succ, List.all_append]; simp
theorem places_no {l : List Place} {k : Nat} (h : k < l.length) (hn : newAt l k = false) : placesOk l = false :=
  List.all_eq_false.2 ⟨k, List.mem_range.2 h, by rw [hn]; decide⟩
theorem prgOk_1 {p : Prog} (h : ¬ p.clauses.length ≤ 12) : prgOk p = false := by simp [prgOk, h]
theorem prgOk_2 {p : Prog} (h : ¬ p.places.length ≤ 6) : prgOk p = false := by simp [prgOk, h]
theorem prgOk_3 {p : Prog} (h : p.clauses.all clauseOk = false) : prgOk p = false := by simp [prgOk, h]
theorem prgOk_4 {p : Prog} (h : placesOk p.places = false) : prgOk p = false := by simp [prgOk, h]
theorem prgOk_5 {p : Prog} (h1 : p.clauses.length ≤ 12) (h2 : p.places.length ≤ 6) (h3 : p.clauses.all clauseOk = true) (h4 : placesOk p.places = true) : prgOk p = true := by simp [prgOk, h1, h2, h3, h4]
/-- goalOk with the tests as the program makes them. -/
def goalI (k : Int) (a d b c q1 q2 q3 : Bool) : Bool :=
  if k = 1 then a && d && q1 else if k = 3 then q2 else if k = 2 ∨ k = 4 then a && b && q3 else if k = 5 then a && b && c else false
theorem goalOk_int (g : Goal) : goalOk g = goalI g.kind (termIn g.a) (headFun g.a) (termIn g.b) (termIn g.c) ((g.b.length : Int) + (g.c.length : Int) == 0) ((g.a.length : Int) + (g.b.length : Int) + (g.c.length : Int) == 0) ((g.c.length : Int) == 0) := by
  have e1 : ((g.b.length : Int) + (g.c.length : Int) == 0) = decide (g.b.length + g.c.length = 0) := by exact decide_eq_decide.2 (by omega)
  have e2 : ((g.a.length : Int) + (g.b.length : Int) + (g.c.length : Int) == 0) = decide (g.a.length + g.b.length + g.c.length = 0) := by exact decide_eq_decide.2 (by omega)
  have e3 : ((g.c.length : Int) == 0) = decide (g.c.length = 0) := by exact decide_eq_decide.2 (by omega)
  rw [e1, e2, e3]; rfl
section
variable {g : Goal} {a b c d q1 q2 q3 : Bool}
theorem goalOkI_1 (hk : g.kind = 1) (h : goalOk g = goalI g.kind a d b c q1 q2 q3) : goalOk g = (a && d && q1) := by rw [h, hk]; rfl
theorem goalOkI_3 (hk : g.kind = 3) (h : goalOk g = goalI g.kind a d b c q1 q2 q3) : goalOk g = q2 := by rw [h, hk]; rfl
theorem goalOkI_2 (hk : g.kind = 2) (h : goalOk g = goalI g.kind a d b c q1 q2 q3) : goalOk g = (a && b && q3) := by rw [h, hk]; rfl
theorem goalOkI_4 (hk : g.kind = 4) (h : goalOk g = goalI g.kind a d b c q1 q2 q3) : goalOk g = (a && b && q3) := by rw [h, hk]; rfl
theorem goalOkI_5 (hk : g.kind = 5) (h : goalOk g = goalI g.kind a d b c q1 q2 q3) : goalOk g = (a && b && c) := by rw [h, hk]; rfl
theorem goalOkI_0 (h1 : ¬ g.kind = 1) (h3 : ¬ g.kind = 3) (h2 : ¬ g.kind = 2) (h4 : ¬ g.kind = 4) (h5 : ¬ g.kind = 5) (h : goalOk g = goalI g.kind a d b c q1 q2 q3) : goalOk g = false := by
  rw [h]; unfold goalI; rw [if_neg h1, if_neg h3, if_neg (by rintro (h | h); exact h2 h; exact h4 h), if_neg h5]
end
end Go.Proofs.YtenigopoknajgaaGreatDoor
