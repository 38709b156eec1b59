/-
  No cell of these rows narrows 'for every input' (looked for: loops, veiled, ifaces, maps, wideKeys, modest, calm, conditions, laid).
  DERIVED. THE GIVEN ROWS OF THIS SEAT. 2 by the template 'for every input the law returns true; each argument reads behind the call as it read before'; 0 by the template 'total and deterministic' (their statements: YtajpldeffhagaaaTotals.lean).
  GIVEN WITH THE SEED: the statements are not yours to turn. If you find one false, say at which input.
  Laid BY PROGRAM, IN A SANDBOX (cutbox-rows.mjs): the forced cells as the released guide's own fill.sh prints them over the translation ce3834bc94d98d99… (all of the seat's roots in one cut). By AI agents, Wed Nov 11 2026. No macro, syntax, notation, axiom, sorry.
-/
import Derived.Test.YtajpldeffhagaaaChecked
import GoSem.Claim
import GoSem.ClaimJoined
import GoSem.ClaimMapViews
import Derived.JoinedTies
import Derived.KernelRfl
namespace Go.Proofs.Ytajpldeffhagaaa
/- THE CELL 'sum', in the pinned program and in every row, IS THE sha256 OF THE DUMP (.gsa) THAT YtajpldeffhagaaaProg.lean LOADS. Nothing in Lean hashes anything: it is a label: what it is worth is what the hold of that sum in a sandbox is worth. -/
noncomputable def Try.pinned : Pinned := { name := "ytajpldeffhagaaa", sum := "ce3834bc94d98d99706bb9af5e9059439148b46be2da5589698b648c623eeb49", checked := Try.checked }
namespace Rows
def none {H : Type} : Left H := { results := [], args := [] }

/-- 'sacristanlaw31.PlanNexts': WHATEVER THE INPUT: true; the input reads as it did. -/
def planNextsSpec : ChangeSpec := { name := "planNexts", fn := fun _ => fun
  | [d1, d2, d3, d4, d5] => { results := [.lit (.bool true)], args := [d1, d2, d3, d4, d5] }
  | _ => none }
def planNextsRow : OpenClaim := { program := "ytajpldeffhagaaa", sum := "ce3834bc94d98d99706bb9af5e9059439148b46be2da5589698b648c623eeb49", func := "sacristan/sacristanlaw31.PlanNexts", spec := "planNexts", unfollowed := true, recurses := true, apart := false }
def PlanNextsSaid : Prop := planNextsRow.holds Try.pinned (OpenSpec.ofChange planNextsSpec)

/-- ITS FALSE NEIGHBOUR: 'it returns false'. Refute it at one input. -/
def planNextsWrong : ChangeSpec := { name := "planNexts", fn := fun _ => fun
  | [d1, d2, d3, d4, d5] => { results := [.lit (.bool false)], args := [d1, d2, d3, d4, d5] }
  | _ => none }
def PlanNextsWrongFalsely : Prop := planNextsRow.holds Try.pinned (OpenSpec.ofChange planNextsWrong)

/-- 'sacristanlaw31.PlanExamples': WHATEVER THE INPUT: true; the input reads as it did. -/
def planExamplesSpec : ChangeSpec := { name := "planExamples", fn := fun _ => fun
  | [] => { results := [.lit (.bool true)], args := [] }
  | _ => none }
def planExamplesRow : OpenClaim := { program := "ytajpldeffhagaaa", sum := "ce3834bc94d98d99706bb9af5e9059439148b46be2da5589698b648c623eeb49", func := "sacristan/sacristanlaw31.PlanExamples", spec := "planExamples", unfollowed := true, recurses := true, apart := false }
def PlanExamplesSaid : Prop := planExamplesRow.holds Try.pinned (OpenSpec.ofChange planExamplesSpec)

/-- ITS FALSE NEIGHBOUR: 'it returns false'. Refute it at one input. -/
def planExamplesWrong : ChangeSpec := { name := "planExamples", fn := fun _ => fun
  | [] => { results := [.lit (.bool false)], args := [] }
  | _ => none }
def PlanExamplesWrongFalsely : Prop := planExamplesRow.holds Try.pinned (OpenSpec.ofChange planExamplesWrong)

/- THE SECOND FORM. 'bulk': how many values and letters a reading holds, each counted each time it is reached (what is shared counts as often as it is met; a slice's spare places count too). A statement '..UptoSaid' is the law's where the arguments, and the package variables that the reading takes, are together of bulk at most 1048576: NARROWER than '..Said'. Prove '..Said' where nothing that the law and all that it calls make is longer than what came in: it says more and counts as full. Else prove '..UptoSaid'. A law counts once. -/
mutual
def uptoBulk {H : Type} : DataW H → Nat
  | .lit (.string bytes) => bytes.length + 1
  | .lit _ => 1
  | .nil => 1
  | .ptr d => uptoBulk d + 1
  | .slice elems spare => uptoBulkAll elems + uptoBulkAll spare + 1
  | .agg parts => uptoBulkAll parts + 1
  | .iface _ d => uptoBulk d + 1
  | .map entries => uptoBulkEntries entries + 1
  | .held _ => 1
def uptoBulkAll {H : Type} : List (DataW H) → Nat
  | [] => 0
  | d :: r => uptoBulk d + uptoBulkAll r
def uptoBulkEntries {H : Type} : List (Lit × DataW H) → Nat
  | [] => 0
  | x :: r => uptoBulkEntry x + uptoBulkEntries r
def uptoBulkEntry {H : Type} : Lit × DataW H → Nat
  | (.string bytes, d) => bytes.length + uptoBulk d + 1
  | (_, d) => uptoBulk d + 1
 end
def uptoSmall : (H : Type) → List (DataW H) → Bool := fun _ ds => decide (uptoBulkAll ds ≤ 1048576)
def OpenSpec.upto (s : _root_.Go.ChangeSpec) : _root_.Go.OpenSpec := { _root_.Go.OpenSpec.ofChange s with cond := some uptoSmall }

/-- 'sacristanlaw31.PlanNexts', WHERE WHAT IT READS IS OF BULK AT MOST 1048576: true; the input reads as it did. -/
def planNextsUptoRow : OpenClaim := { program := "ytajpldeffhagaaa", sum := "ce3834bc94d98d99706bb9af5e9059439148b46be2da5589698b648c623eeb49", func := "sacristan/sacristanlaw31.PlanNexts", spec := "planNexts", unfollowed := true, recurses := true, apart := false, narrowed := true }
def PlanNextsUptoSaid : Prop := planNextsUptoRow.holds Try.pinned (OpenSpec.upto planNextsSpec)

/-- 'sacristanlaw31.PlanExamples', WHERE WHAT IT READS IS OF BULK AT MOST 1048576: true; the input reads as it did. -/
def planExamplesUptoRow : OpenClaim := { program := "ytajpldeffhagaaa", sum := "ce3834bc94d98d99706bb9af5e9059439148b46be2da5589698b648c623eeb49", func := "sacristan/sacristanlaw31.PlanExamples", spec := "planExamples", unfollowed := true, recurses := true, apart := false, narrowed := true }
def PlanExamplesUptoSaid : Prop := planExamplesUptoRow.holds Try.pinned (OpenSpec.upto planExamplesSpec)

end Rows
end Go.Proofs.Ytajpldeffhagaaa
