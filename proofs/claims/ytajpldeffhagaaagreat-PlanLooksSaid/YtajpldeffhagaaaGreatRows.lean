/-
  No cell of these rows narrows 'for every input' (looked for: loops, veiled, ifaces, maps, wideKeys, modest, calm, conditions, laid).
  DERIVED. THE GIVEN ROWS OF THIS SEAT. 4 by the template 'for every input the law returns true; each argument reads behind the call as it read before'; 0 by the template 'total and deterministic' (their statements: YtajpldeffhagaaaGreatTotals.lean).
  GIVEN WITH THE SEED: the statements are not yours to turn. If you find one false, say at which input.
  Laid BY PROGRAM, IN A SANDBOX (cutbox-rows.mjs): the forced cells as the released guide's own fill.sh prints them over the translation 1cca88c3d10a766e… (all of the seat's roots in one cut). By AI agents, Wed Nov 11 2026. No macro, syntax, notation, axiom, sorry.
-/
import Derived.Test.YtajpldeffhagaaaGreatChecked
import GoSem.Claim
import GoSem.ClaimJoined
import GoSem.ClaimMapViews
import Derived.JoinedTies
import Derived.KernelRfl
namespace Go.Proofs.YtajpldeffhagaaaGreat
/- THE CELL 'sum', in the pinned program and in every row, IS THE sha256 OF THE DUMP (.gsa) THAT YtajpldeffhagaaaGreatProg.lean LOADS. Nothing in Lean hashes anything: it is a label: what it is worth is what the hold of that sum in a sandbox is worth. -/
noncomputable def Tryz.pinned : Pinned := { name := "ytajpldeffhagaaagreat", sum := "1cca88c3d10a766ef4b3fb3cdfc8d3c013ff178dcabec9e8825664c5f35d3e4a", checked := Tryz.checked }
namespace Rows
def none {H : Type} : Left H := { results := [], args := [] }

/-- 'sacristanlaw30.BootExamples': WHATEVER THE INPUT: true; the input reads as it did. -/
def bootExamplesSpec : ChangeSpec := { name := "bootExamples", fn := fun _ => fun
  | [] => { results := [.lit (.bool true)], args := [] }
  | _ => none }
def bootExamplesRow : OpenClaim := { program := "ytajpldeffhagaaagreat", sum := "1cca88c3d10a766ef4b3fb3cdfc8d3c013ff178dcabec9e8825664c5f35d3e4a", func := "sacristan/sacristanlaw30.BootExamples", spec := "bootExamples", unfollowed := true, recurses := true, apart := false }
def BootExamplesSaid : Prop := bootExamplesRow.holds Tryz.pinned (OpenSpec.ofChange bootExamplesSpec)

/-- ITS FALSE NEIGHBOUR: 'it returns false'. Refute it at one input. -/
def bootExamplesWrong : ChangeSpec := { name := "bootExamples", fn := fun _ => fun
  | [] => { results := [.lit (.bool false)], args := [] }
  | _ => none }
def BootExamplesWrongFalsely : Prop := bootExamplesRow.holds Tryz.pinned (OpenSpec.ofChange bootExamplesWrong)

/-- 'sacristanlaw30.BootSplits': WHATEVER THE INPUT: true; the input reads as it did. -/
def bootSplitsSpec : ChangeSpec := { name := "bootSplits", fn := fun _ => fun
  | [d1, d2, d3, d4] => { results := [.lit (.bool true)], args := [d1, d2, d3, d4] }
  | _ => none }
def bootSplitsRow : OpenClaim := { program := "ytajpldeffhagaaagreat", sum := "1cca88c3d10a766ef4b3fb3cdfc8d3c013ff178dcabec9e8825664c5f35d3e4a", func := "sacristan/sacristanlaw30.BootSplits", spec := "bootSplits", unfollowed := true, recurses := true, apart := false }
def BootSplitsSaid : Prop := bootSplitsRow.holds Tryz.pinned (OpenSpec.ofChange bootSplitsSpec)

/-- ITS FALSE NEIGHBOUR: 'it returns false'. Refute it at one input. -/
def bootSplitsWrong : ChangeSpec := { name := "bootSplits", fn := fun _ => fun
  | [d1, d2, d3, d4] => { results := [.lit (.bool false)], args := [d1, d2, d3, d4] }
  | _ => none }
def BootSplitsWrongFalsely : Prop := bootSplitsRow.holds Tryz.pinned (OpenSpec.ofChange bootSplitsWrong)

/-- 'sacristanlaw30.BootTwice': WHATEVER THE INPUT: true; the input reads as it did. -/
def bootTwiceSpec : ChangeSpec := { name := "bootTwice", fn := fun _ => fun
  | [d1, d2, d3, d4] => { results := [.lit (.bool true)], args := [d1, d2, d3, d4] }
  | _ => none }
def bootTwiceRow : OpenClaim := { program := "ytajpldeffhagaaagreat", sum := "1cca88c3d10a766ef4b3fb3cdfc8d3c013ff178dcabec9e8825664c5f35d3e4a", func := "sacristan/sacristanlaw30.BootTwice", spec := "bootTwice", unfollowed := true, recurses := true, apart := false }
def BootTwiceSaid : Prop := bootTwiceRow.holds Tryz.pinned (OpenSpec.ofChange bootTwiceSpec)

/-- ITS FALSE NEIGHBOUR: 'it returns false'. Refute it at one input. -/
def bootTwiceWrong : ChangeSpec := { name := "bootTwice", fn := fun _ => fun
  | [d1, d2, d3, d4] => { results := [.lit (.bool false)], args := [d1, d2, d3, d4] }
  | _ => none }
def BootTwiceWrongFalsely : Prop := bootTwiceRow.holds Tryz.pinned (OpenSpec.ofChange bootTwiceWrong)

/-- 'sacristanlaw31.PlanLooks': WHATEVER THE INPUT: true; the input reads as it did. -/
def planLooksSpec : ChangeSpec := { name := "planLooks", fn := fun _ => fun
  | [d1, d2, d3, d4, d5, d6] => { results := [.lit (.bool true)], args := [d1, d2, d3, d4, d5, d6] }
  | _ => none }
def planLooksRow : OpenClaim := { program := "ytajpldeffhagaaagreat", sum := "1cca88c3d10a766ef4b3fb3cdfc8d3c013ff178dcabec9e8825664c5f35d3e4a", func := "sacristan/sacristanlaw31.PlanLooks", spec := "planLooks", unfollowed := true, recurses := true, apart := false }
def PlanLooksSaid : Prop := planLooksRow.holds Tryz.pinned (OpenSpec.ofChange planLooksSpec)

/-- ITS FALSE NEIGHBOUR: 'it returns false'. Refute it at one input. -/
def planLooksWrong : ChangeSpec := { name := "planLooks", fn := fun _ => fun
  | [d1, d2, d3, d4, d5, d6] => { results := [.lit (.bool false)], args := [d1, d2, d3, d4, d5, d6] }
  | _ => none }
def PlanLooksWrongFalsely : Prop := planLooksRow.holds Tryz.pinned (OpenSpec.ofChange planLooksWrong)

/- THE SECOND FORM. 'bulk': how many values and letters a reading holds, each counted each time it is reached (what is shared counts as often as it is met; a slice's spare places count too). A statement '..UptoSaid' is the law's where the arguments, and the package variables that the reading takes, are together of bulk at most 1048576: NARROWER than '..Said'. Prove '..Said' where nothing that the law and all that it calls make is longer than what came in: it says more and counts as full. Else prove '..UptoSaid'. A law counts once. -/
mutual
def uptoBulk {H : Type} : DataW H → Nat
  | .lit (.string bytes) => bytes.length + 1
  | .lit _ => 1
  | .nil => 1
  | .ptr d => uptoBulk d + 1
  | .slice elems spare => uptoBulkAll elems + uptoBulkAll spare + 1
  | .agg parts => uptoBulkAll parts + 1
  | .iface _ d => uptoBulk d + 1
  | .map entries => uptoBulkEntries entries + 1
  | .held _ => 1
def uptoBulkAll {H : Type} : List (DataW H) → Nat
  | [] => 0
  | d :: r => uptoBulk d + uptoBulkAll r
def uptoBulkEntries {H : Type} : List (Lit × DataW H) → Nat
  | [] => 0
  | x :: r => uptoBulkEntry x + uptoBulkEntries r
def uptoBulkEntry {H : Type} : Lit × DataW H → Nat
  | (.string bytes, d) => bytes.length + uptoBulk d + 1
  | (_, d) => uptoBulk d + 1
 end
def uptoSmall : (H : Type) → List (DataW H) → Bool := fun _ ds => decide (uptoBulkAll ds ≤ 1048576)
def OpenSpec.upto (s : _root_.Go.ChangeSpec) : _root_.Go.OpenSpec := { _root_.Go.OpenSpec.ofChange s with cond := some uptoSmall }

/-- 'sacristanlaw30.BootExamples', WHERE WHAT IT READS IS OF BULK AT MOST 1048576: true; the input reads as it did. -/
def bootExamplesUptoRow : OpenClaim := { program := "ytajpldeffhagaaagreat", sum := "1cca88c3d10a766ef4b3fb3cdfc8d3c013ff178dcabec9e8825664c5f35d3e4a", func := "sacristan/sacristanlaw30.BootExamples", spec := "bootExamples", unfollowed := true, recurses := true, apart := false, narrowed := true }
def BootExamplesUptoSaid : Prop := bootExamplesUptoRow.holds Tryz.pinned (OpenSpec.upto bootExamplesSpec)

/-- 'sacristanlaw30.BootSplits', WHERE WHAT IT READS IS OF BULK AT MOST 1048576: true; the input reads as it did. -/
def bootSplitsUptoRow : OpenClaim := { program := "ytajpldeffhagaaagreat", sum := "1cca88c3d10a766ef4b3fb3cdfc8d3c013ff178dcabec9e8825664c5f35d3e4a", func := "sacristan/sacristanlaw30.BootSplits", spec := "bootSplits", unfollowed := true, recurses := true, apart := false, narrowed := true }
def BootSplitsUptoSaid : Prop := bootSplitsUptoRow.holds Tryz.pinned (OpenSpec.upto bootSplitsSpec)

/-- 'sacristanlaw30.BootTwice', WHERE WHAT IT READS IS OF BULK AT MOST 1048576: true; the input reads as it did. -/
def bootTwiceUptoRow : OpenClaim := { program := "ytajpldeffhagaaagreat", sum := "1cca88c3d10a766ef4b3fb3cdfc8d3c013ff178dcabec9e8825664c5f35d3e4a", func := "sacristan/sacristanlaw30.BootTwice", spec := "bootTwice", unfollowed := true, recurses := true, apart := false, narrowed := true }
def BootTwiceUptoSaid : Prop := bootTwiceUptoRow.holds Tryz.pinned (OpenSpec.upto bootTwiceSpec)

/-- 'sacristanlaw31.PlanLooks', WHERE WHAT IT READS IS OF BULK AT MOST 1048576: true; the input reads as it did. -/
def planLooksUptoRow : OpenClaim := { program := "ytajpldeffhagaaagreat", sum := "1cca88c3d10a766ef4b3fb3cdfc8d3c013ff178dcabec9e8825664c5f35d3e4a", func := "sacristan/sacristanlaw31.PlanLooks", spec := "planLooks", unfollowed := true, recurses := true, apart := false, narrowed := true }
def PlanLooksUptoSaid : Prop := planLooksUptoRow.holds Tryz.pinned (OpenSpec.upto planLooksSpec)

end Rows
end Go.Proofs.YtajpldeffhagaaaGreat
