/- The data of the program as Lean structures, and plain functions on them. No program in sight. -/
import Derived.Below
namespace Go.Proofs.YtenigopoknajgaaDoor

structure Cell where
  kind : Int
  n : Int
  name : ByteArray
theorem Cell.ext_iff (a b : Cell) : a = b ↔ a.kind = b.kind ∧ a.n = b.n ∧ a.name = b.name := by
  cases a; cases b; simp
instance : DecidableEq Cell := fun a b => decidable_of_iff _ (Cell.ext_iff a b).symm
abbrev Term := List Cell
structure Bind where
  v : Int
  term : Term
structure Goal where
  kind : Int
  a : Term
  b : Term
  c : Term
structure Clause where
  head : Term
  body : List Goal
structure Place where
  name : ByteArray
  n : Int
  node : Int
structure Prog where
  clauses : List Clause
  places : List Place
structure SGoal where
  goal : Goal
  cut : Int
structure SChoice where
  goals : List SGoal
  binds : List Bind
  vars : Int
  call : Term
  next : Int
structure SState where
  status : Int
  goals : List SGoal
  binds : List Bind
  vars : Int
  choices : List SChoice
  top : Term
  out : Term
structure TChoice where
  goals : List SGoal
  mark : Int
  vars : Int
  call : Term
  next : Int
  far : Int
structure TState where
  status : Int
  goals : List SGoal
  binds : List Bind
  vars : Int
  choices : List TChoice
  top : Term
  out : Term
structure SOut where
  status : Int
  term : Term
structure Msg where
  kind : Int
  from_ : Int
  top : Term
  n : Int
  out : SOut
structure Work where
  outs : List SOut
  want : Int
  asked : Bool
  slv : TState
structure Node where
  up : Bool
  works : List Work
structure NetM where
  to : Int
  bent : Bool
  bytes : List UInt8
structure World_ where
  prog : Prog
  nodes : List Node
  top : Term
  outs : List SOut
  net : List NetM
end Go.Proofs.YtenigopoknajgaaDoor
