/-
  No cell of these rows narrows 'for every input' (looked for: loops, veiled, ifaces, maps, wideKeys, modest, calm, conditions, laid).
  DERIVED. THE GIVEN ROWS OF THIS SEAT. 3 by the template 'for every input the law returns true; each argument reads behind the call as it read before'; 0 by the template 'total and deterministic' (their statements: YtlilbhjcdicnkaaTotals.lean).
  GIVEN WITH THE SEED: the statements are not yours to turn. If you find one false, say at which input.
  Laid BY PROGRAM, IN A SANDBOX (cutbox-rows.mjs): the forced cells as the released guide's own fill.sh prints them over the translation 82d0fdfb8f773c90… (all of the seat's roots in one cut). By AI agents, Wed Nov 11 2026. No macro, syntax, notation, axiom, sorry.
-/
import Derived.Test.YtlilbhjcdicnkaaChecked
import GoSem.Claim
import GoSem.ClaimJoined
import GoSem.ClaimMapViews
import Derived.JoinedTies
import Derived.KernelRfl
namespace Go.Proofs.Ytlilbhjcdicnkaa
/- THE CELL 'sum', in the pinned program and in every row, IS THE sha256 OF THE DUMP (.gsa) THAT YtlilbhjcdicnkaaProg.lean LOADS. Nothing in Lean hashes anything: it is a label: what it is worth is what the hold of that sum in a sandbox is worth. -/
noncomputable def Try.pinned : Pinned := { name := "ytlilbhjcdicnkaa", sum := "82d0fdfb8f773c90e1ec54b895bb703eb4031c850c55cbf0f7f668ce937424ea", checked := Try.checked }
namespace Rows
def none {H : Type} : Left H := { results := [], args := [] }

/-- 'laws.FnExactMsgSum': WHATEVER THE INPUT: true; the input reads as it did. -/
def fnExactMsgSumSpec : ChangeSpec := { name := "fnExactMsgSum", fn := fun _ => fun
  | [d] => { results := [.lit (.bool true)], args := [d] }
  | _ => none }
def fnExactMsgSumRow : OpenClaim := { program := "ytlilbhjcdicnkaa", sum := "82d0fdfb8f773c90e1ec54b895bb703eb4031c850c55cbf0f7f668ce937424ea", func := "loop.example/catechist/laws.FnExactMsgSum", spec := "fnExactMsgSum", apart := false }
def FnExactMsgSumSaid : Prop := fnExactMsgSumRow.holds Try.pinned (OpenSpec.ofChange fnExactMsgSumSpec)

/-- ITS FALSE NEIGHBOUR: 'it returns false'. Refute it at one input. -/
def fnExactMsgSumWrong : ChangeSpec := { name := "fnExactMsgSum", fn := fun _ => fun
  | [d] => { results := [.lit (.bool false)], args := [d] }
  | _ => none }
def FnExactMsgSumWrongFalsely : Prop := fnExactMsgSumRow.holds Try.pinned (OpenSpec.ofChange fnExactMsgSumWrong)

/-- 'laws.FnMsgSum': WHATEVER THE INPUT: true; the input reads as it did. -/
def fnMsgSumSpec : ChangeSpec := { name := "fnMsgSum", fn := fun _ => fun
  | [d] => { results := [.lit (.bool true)], args := [d] }
  | _ => none }
def fnMsgSumRow : OpenClaim := { program := "ytlilbhjcdicnkaa", sum := "82d0fdfb8f773c90e1ec54b895bb703eb4031c850c55cbf0f7f668ce937424ea", func := "loop.example/catechist/laws.FnMsgSum", spec := "fnMsgSum", apart := false }
def FnMsgSumSaid : Prop := fnMsgSumRow.holds Try.pinned (OpenSpec.ofChange fnMsgSumSpec)

/-- ITS FALSE NEIGHBOUR: 'it returns false'. Refute it at one input. -/
def fnMsgSumWrong : ChangeSpec := { name := "fnMsgSum", fn := fun _ => fun
  | [d] => { results := [.lit (.bool false)], args := [d] }
  | _ => none }
def FnMsgSumWrongFalsely : Prop := fnMsgSumRow.holds Try.pinned (OpenSpec.ofChange fnMsgSumWrong)

/-- 'laws.FnExactNodNew': WHATEVER THE INPUT: true; the input reads as it did. -/
def fnExactNodNewSpec : ChangeSpec := { name := "fnExactNodNew", fn := fun _ => fun
  | [] => { results := [.lit (.bool true)], args := [] }
  | _ => none }
def fnExactNodNewRow : OpenClaim := { program := "ytlilbhjcdicnkaa", sum := "82d0fdfb8f773c90e1ec54b895bb703eb4031c850c55cbf0f7f668ce937424ea", func := "loop.example/catechist/laws.FnExactNodNew", spec := "fnExactNodNew", apart := false }
def FnExactNodNewSaid : Prop := fnExactNodNewRow.holds Try.pinned (OpenSpec.ofChange fnExactNodNewSpec)

/-- ITS FALSE NEIGHBOUR: 'it returns false'. Refute it at one input. -/
def fnExactNodNewWrong : ChangeSpec := { name := "fnExactNodNew", fn := fun _ => fun
  | [] => { results := [.lit (.bool false)], args := [] }
  | _ => none }
def FnExactNodNewWrongFalsely : Prop := fnExactNodNewRow.holds Try.pinned (OpenSpec.ofChange fnExactNodNewWrong)

/- THE SECOND FORM. 'bulk': how many values and letters a reading holds, each counted each time it is reached (what is shared counts as often as it is met; a slice's spare places count too). A statement '..UptoSaid' is the law's where the arguments, and the package variables that the reading takes, are together of bulk at most 1048576: NARROWER than '..Said'. Prove '..Said' where nothing that the law and all that it calls make is longer than what came in: it says more and counts as full. Else prove '..UptoSaid'. A law counts once. -/
mutual
def uptoBulk {H : Type} : DataW H → Nat
  | .lit (.string bytes) => bytes.length + 1
  | .lit _ => 1
  | .nil => 1
  | .ptr d => uptoBulk d + 1
  | .slice elems spare => uptoBulkAll elems + uptoBulkAll spare + 1
  | .agg parts => uptoBulkAll parts + 1
  | .iface _ d => uptoBulk d + 1
  | .map entries => uptoBulkEntries entries + 1
  | .held _ => 1
def uptoBulkAll {H : Type} : List (DataW H) → Nat
  | [] => 0
  | d :: r => uptoBulk d + uptoBulkAll r
def uptoBulkEntries {H : Type} : List (Lit × DataW H) → Nat
  | [] => 0
  | x :: r => uptoBulkEntry x + uptoBulkEntries r
def uptoBulkEntry {H : Type} : Lit × DataW H → Nat
  | (.string bytes, d) => bytes.length + uptoBulk d + 1
  | (_, d) => uptoBulk d + 1
 end
def uptoSmall : (H : Type) → List (DataW H) → Bool := fun _ ds => decide (uptoBulkAll ds ≤ 1048576)
def OpenSpec.upto (s : _root_.Go.ChangeSpec) : _root_.Go.OpenSpec := { _root_.Go.OpenSpec.ofChange s with cond := some uptoSmall }

/-- 'laws.FnExactMsgSum', WHERE WHAT IT READS IS OF BULK AT MOST 1048576: true; the input reads as it did. -/
def fnExactMsgSumUptoRow : OpenClaim := { program := "ytlilbhjcdicnkaa", sum := "82d0fdfb8f773c90e1ec54b895bb703eb4031c850c55cbf0f7f668ce937424ea", func := "loop.example/catechist/laws.FnExactMsgSum", spec := "fnExactMsgSum", apart := false, narrowed := true }
def FnExactMsgSumUptoSaid : Prop := fnExactMsgSumUptoRow.holds Try.pinned (OpenSpec.upto fnExactMsgSumSpec)

/-- 'laws.FnMsgSum', WHERE WHAT IT READS IS OF BULK AT MOST 1048576: true; the input reads as it did. -/
def fnMsgSumUptoRow : OpenClaim := { program := "ytlilbhjcdicnkaa", sum := "82d0fdfb8f773c90e1ec54b895bb703eb4031c850c55cbf0f7f668ce937424ea", func := "loop.example/catechist/laws.FnMsgSum", spec := "fnMsgSum", apart := false, narrowed := true }
def FnMsgSumUptoSaid : Prop := fnMsgSumUptoRow.holds Try.pinned (OpenSpec.upto fnMsgSumSpec)

/-- 'laws.FnExactNodNew', WHERE WHAT IT READS IS OF BULK AT MOST 1048576: true; the input reads as it did. -/
def fnExactNodNewUptoRow : OpenClaim := { program := "ytlilbhjcdicnkaa", sum := "82d0fdfb8f773c90e1ec54b895bb703eb4031c850c55cbf0f7f668ce937424ea", func := "loop.example/catechist/laws.FnExactNodNew", spec := "fnExactNodNew", apart := false, narrowed := true }
def FnExactNodNewUptoSaid : Prop := fnExactNodNewUptoRow.holds Try.pinned (OpenSpec.upto fnExactNodNewSpec)

end Rows
end Go.Proofs.Ytlilbhjcdicnkaa
