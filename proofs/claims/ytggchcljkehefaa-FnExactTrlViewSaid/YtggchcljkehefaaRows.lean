/-
  No cell of these rows narrows 'for every input' (looked for: loops, veiled, ifaces, maps, wideKeys, modest, calm, conditions, laid).
  DERIVED. THE GIVEN ROWS OF THIS SEAT. 2 by the template 'for every input the law returns true; each argument reads behind the call as it read before'; 0 by the template 'total and deterministic' (their statements: YtggchcljkehefaaTotals.lean).
  GIVEN WITH THE SEED: the statements are not yours to turn. If you find one false, say at which input.
  Laid BY PROGRAM, IN A SANDBOX (cutbox-rows.mjs): the forced cells as the released guide's own fill.sh prints them over the translation 6ea054b4cb283a8a… (all of the seat's roots in one cut). By AI agents, Wed Nov 11 2026. No macro, syntax, notation, axiom, sorry.
-/
import Derived.Test.YtggchcljkehefaaChecked
import GoSem.Claim
import GoSem.ClaimJoined
import GoSem.ClaimMapViews
import Derived.JoinedTies
import Derived.KernelRfl
namespace Go.Proofs.Ytggchcljkehefaa
/- THE CELL 'sum', in the pinned program and in every row, IS THE sha256 OF THE DUMP (.gsa) THAT YtggchcljkehefaaProg.lean LOADS. Nothing in Lean hashes anything: it is a label: what it is worth is what the hold of that sum in a sandbox is worth. -/
noncomputable def Try.pinned : Pinned := { name := "ytggchcljkehefaa", sum := "6ea054b4cb283a8aea1f6768f9750a347b46b68a16fdcd59a82a986053ce8bc8", checked := Try.checked }
namespace Rows
def none {H : Type} : Left H := { results := [], args := [] }

/-- 'laws.FnExactTrlWants': WHATEVER THE INPUT: true; the input reads as it did. -/
def fnExactTrlWantsSpec : ChangeSpec := { name := "fnExactTrlWants", fn := fun _ => fun
  | [d] => { results := [.lit (.bool true)], args := [d] }
  | _ => none }
def fnExactTrlWantsRow : OpenClaim := { program := "ytggchcljkehefaa", sum := "6ea054b4cb283a8aea1f6768f9750a347b46b68a16fdcd59a82a986053ce8bc8", func := "loop.example/catechist/laws.FnExactTrlWants", spec := "fnExactTrlWants", apart := false }
def FnExactTrlWantsSaid : Prop := fnExactTrlWantsRow.holds Try.pinned (OpenSpec.ofChange fnExactTrlWantsSpec)

/-- ITS FALSE NEIGHBOUR: 'it returns false'. Refute it at one input. -/
def fnExactTrlWantsWrong : ChangeSpec := { name := "fnExactTrlWants", fn := fun _ => fun
  | [d] => { results := [.lit (.bool false)], args := [d] }
  | _ => none }
def FnExactTrlWantsWrongFalsely : Prop := fnExactTrlWantsRow.holds Try.pinned (OpenSpec.ofChange fnExactTrlWantsWrong)

/-- 'laws.FnExactTrlView': WHATEVER THE INPUT: true; the input reads as it did. -/
def fnExactTrlViewSpec : ChangeSpec := { name := "fnExactTrlView", fn := fun _ => fun
  | [d] => { results := [.lit (.bool true)], args := [d] }
  | _ => none }
def fnExactTrlViewRow : OpenClaim := { program := "ytggchcljkehefaa", sum := "6ea054b4cb283a8aea1f6768f9750a347b46b68a16fdcd59a82a986053ce8bc8", func := "loop.example/catechist/laws.FnExactTrlView", spec := "fnExactTrlView", apart := false }
def FnExactTrlViewSaid : Prop := fnExactTrlViewRow.holds Try.pinned (OpenSpec.ofChange fnExactTrlViewSpec)

/-- ITS FALSE NEIGHBOUR: 'it returns false'. Refute it at one input. -/
def fnExactTrlViewWrong : ChangeSpec := { name := "fnExactTrlView", fn := fun _ => fun
  | [d] => { results := [.lit (.bool false)], args := [d] }
  | _ => none }
def FnExactTrlViewWrongFalsely : Prop := fnExactTrlViewRow.holds Try.pinned (OpenSpec.ofChange fnExactTrlViewWrong)

/- THE SECOND FORM. 'bulk': how many values and letters a reading holds, each counted each time it is reached (what is shared counts as often as it is met; a slice's spare places count too). A statement '..UptoSaid' is the law's where the arguments, and the package variables that the reading takes, are together of bulk at most 1048576: NARROWER than '..Said'. Prove '..Said' where nothing that the law and all that it calls make is longer than what came in: it says more and counts as full. Else prove '..UptoSaid'. A law counts once. -/
mutual
def uptoBulk {H : Type} : DataW H → Nat
  | .lit (.string bytes) => bytes.length + 1
  | .lit _ => 1
  | .nil => 1
  | .ptr d => uptoBulk d + 1
  | .slice elems spare => uptoBulkAll elems + uptoBulkAll spare + 1
  | .agg parts => uptoBulkAll parts + 1
  | .iface _ d => uptoBulk d + 1
  | .map entries => uptoBulkEntries entries + 1
  | .held _ => 1
def uptoBulkAll {H : Type} : List (DataW H) → Nat
  | [] => 0
  | d :: r => uptoBulk d + uptoBulkAll r
def uptoBulkEntries {H : Type} : List (Lit × DataW H) → Nat
  | [] => 0
  | x :: r => uptoBulkEntry x + uptoBulkEntries r
def uptoBulkEntry {H : Type} : Lit × DataW H → Nat
  | (.string bytes, d) => bytes.length + uptoBulk d + 1
  | (_, d) => uptoBulk d + 1
 end
def uptoSmall : (H : Type) → List (DataW H) → Bool := fun _ ds => decide (uptoBulkAll ds ≤ 1048576)
def OpenSpec.upto (s : _root_.Go.ChangeSpec) : _root_.Go.OpenSpec := { _root_.Go.OpenSpec.ofChange s with cond := some uptoSmall }

/-- 'laws.FnExactTrlWants', WHERE WHAT IT READS IS OF BULK AT MOST 1048576: true; the input reads as it did. -/
def fnExactTrlWantsUptoRow : OpenClaim := { program := "ytggchcljkehefaa", sum := "6ea054b4cb283a8aea1f6768f9750a347b46b68a16fdcd59a82a986053ce8bc8", func := "loop.example/catechist/laws.FnExactTrlWants", spec := "fnExactTrlWants", apart := false, narrowed := true }
def FnExactTrlWantsUptoSaid : Prop := fnExactTrlWantsUptoRow.holds Try.pinned (OpenSpec.upto fnExactTrlWantsSpec)

/-- 'laws.FnExactTrlView', WHERE WHAT IT READS IS OF BULK AT MOST 1048576: true; the input reads as it did. -/
def fnExactTrlViewUptoRow : OpenClaim := { program := "ytggchcljkehefaa", sum := "6ea054b4cb283a8aea1f6768f9750a347b46b68a16fdcd59a82a986053ce8bc8", func := "loop.example/catechist/laws.FnExactTrlView", spec := "fnExactTrlView", apart := false, narrowed := true }
def FnExactTrlViewUptoSaid : Prop := fnExactTrlViewUptoRow.holds Try.pinned (OpenSpec.upto fnExactTrlViewSpec)

end Rows
end Go.Proofs.Ytggchcljkehefaa
