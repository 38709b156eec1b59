/-
  No cell of these rows narrows 'for every input' (looked for: loops, veiled, ifaces, maps, wideKeys, modest, calm, conditions, laid).
  DERIVED. THE GIVEN ROWS OF THIS SEAT. 10 by the template 'for every input the law returns true; each argument reads behind the call as it read before'; 0 by the template 'total and deterministic' (their statements: YtdblhmpcilihnaaGreatTotals.lean).
  GIVEN WITH THE SEED: the statements are not yours to turn. If you find one false, say at which input.
  Laid BY PROGRAM, IN A SANDBOX (cutbox-rows.mjs): the forced cells as the released guide's own fill.sh prints them over the translation 0142af0430b4f1b7… (all of the seat's roots in one cut). By AI agents, Wed Nov 11 2026. No macro, syntax, notation, axiom, sorry.
-/
import Derived.Test.YtdblhmpcilihnaaGreatChecked
import GoSem.Claim
import GoSem.ClaimJoined
import GoSem.ClaimMapViews
import Derived.JoinedTies
import Derived.KernelRfl
namespace Go.Proofs.YtdblhmpcilihnaaGreat
/- THE CELL 'sum', in the pinned program and in every row, IS THE sha256 OF THE DUMP (.gsa) THAT YtdblhmpcilihnaaGreatProg.lean LOADS. Nothing in Lean hashes anything: it is a label: what it is worth is what the hold of that sum in a sandbox is worth. -/
noncomputable def Tryz.pinned : Pinned := { name := "ytdblhmpcilihnaagreat", sum := "0142af0430b4f1b7cb7b04874a77761a1126f90fa0b44f50c7af702c9298fc6a", checked := Tryz.checked }
namespace Rows
def none {H : Type} : Left H := { results := [], args := [] }

/-- 'sacristanlaw20.StateNames': WHATEVER THE INPUT: true; the input reads as it did. -/
def stateNamesSpec : ChangeSpec := { name := "stateNames", fn := fun _ => fun
  | [] => { results := [.lit (.bool true)], args := [] }
  | _ => none }
def stateNamesRow : OpenClaim := { program := "ytdblhmpcilihnaagreat", sum := "0142af0430b4f1b7cb7b04874a77761a1126f90fa0b44f50c7af702c9298fc6a", func := "sacristan/sacristanlaw20.StateNames", spec := "stateNames", unfollowed := true, recurses := true, apart := false }
def StateNamesSaid : Prop := stateNamesRow.holds Tryz.pinned (OpenSpec.ofChange stateNamesSpec)

/-- ITS FALSE NEIGHBOUR: 'it returns false'. Refute it at one input. -/
def stateNamesWrong : ChangeSpec := { name := "stateNames", fn := fun _ => fun
  | [] => { results := [.lit (.bool false)], args := [] }
  | _ => none }
def StateNamesWrongFalsely : Prop := stateNamesRow.holds Tryz.pinned (OpenSpec.ofChange stateNamesWrong)

/-- 'sacristanlaw20.StateMatches': WHATEVER THE INPUT: true; the input reads as it did. -/
def stateMatchesSpec : ChangeSpec := { name := "stateMatches", fn := fun _ => fun
  | [d1, d2, d3] => { results := [.lit (.bool true)], args := [d1, d2, d3] }
  | _ => none }
def stateMatchesRow : OpenClaim := { program := "ytdblhmpcilihnaagreat", sum := "0142af0430b4f1b7cb7b04874a77761a1126f90fa0b44f50c7af702c9298fc6a", func := "sacristan/sacristanlaw20.StateMatches", spec := "stateMatches", unfollowed := true, recurses := true, apart := false }
def StateMatchesSaid : Prop := stateMatchesRow.holds Tryz.pinned (OpenSpec.ofChange stateMatchesSpec)

/-- ITS FALSE NEIGHBOUR: 'it returns false'. Refute it at one input. -/
def stateMatchesWrong : ChangeSpec := { name := "stateMatches", fn := fun _ => fun
  | [d1, d2, d3] => { results := [.lit (.bool false)], args := [d1, d2, d3] }
  | _ => none }
def StateMatchesWrongFalsely : Prop := stateMatchesRow.holds Tryz.pinned (OpenSpec.ofChange stateMatchesWrong)

/-- 'sacristanlaw20.StateKeeps': WHATEVER THE INPUT: true; the input reads as it did. -/
def stateKeepsSpec : ChangeSpec := { name := "stateKeeps", fn := fun _ => fun
  | [d1, d2] => { results := [.lit (.bool true)], args := [d1, d2] }
  | _ => none }
def stateKeepsRow : OpenClaim := { program := "ytdblhmpcilihnaagreat", sum := "0142af0430b4f1b7cb7b04874a77761a1126f90fa0b44f50c7af702c9298fc6a", func := "sacristan/sacristanlaw20.StateKeeps", spec := "stateKeeps", unfollowed := true, recurses := true, apart := false }
def StateKeepsSaid : Prop := stateKeepsRow.holds Tryz.pinned (OpenSpec.ofChange stateKeepsSpec)

/-- ITS FALSE NEIGHBOUR: 'it returns false'. Refute it at one input. -/
def stateKeepsWrong : ChangeSpec := { name := "stateKeeps", fn := fun _ => fun
  | [d1, d2] => { results := [.lit (.bool false)], args := [d1, d2] }
  | _ => none }
def StateKeepsWrongFalsely : Prop := stateKeepsRow.holds Tryz.pinned (OpenSpec.ofChange stateKeepsWrong)

/-- 'sacristanlaw20.StateOne': WHATEVER THE INPUT: true; the input reads as it did. -/
def stateOneSpec : ChangeSpec := { name := "stateOne", fn := fun _ => fun
  | [d1, d2] => { results := [.lit (.bool true)], args := [d1, d2] }
  | _ => none }
def stateOneRow : OpenClaim := { program := "ytdblhmpcilihnaagreat", sum := "0142af0430b4f1b7cb7b04874a77761a1126f90fa0b44f50c7af702c9298fc6a", func := "sacristan/sacristanlaw20.StateOne", spec := "stateOne", unfollowed := true, recurses := true, apart := false }
def StateOneSaid : Prop := stateOneRow.holds Tryz.pinned (OpenSpec.ofChange stateOneSpec)

/-- ITS FALSE NEIGHBOUR: 'it returns false'. Refute it at one input. -/
def stateOneWrong : ChangeSpec := { name := "stateOne", fn := fun _ => fun
  | [d1, d2] => { results := [.lit (.bool false)], args := [d1, d2] }
  | _ => none }
def StateOneWrongFalsely : Prop := stateOneRow.holds Tryz.pinned (OpenSpec.ofChange stateOneWrong)

/-- 'sacristanlaw20.StateForgets': WHATEVER THE INPUT: true; the input reads as it did. -/
def stateForgetsSpec : ChangeSpec := { name := "stateForgets", fn := fun _ => fun
  | [d1, d2] => { results := [.lit (.bool true)], args := [d1, d2] }
  | _ => none }
def stateForgetsRow : OpenClaim := { program := "ytdblhmpcilihnaagreat", sum := "0142af0430b4f1b7cb7b04874a77761a1126f90fa0b44f50c7af702c9298fc6a", func := "sacristan/sacristanlaw20.StateForgets", spec := "stateForgets", unfollowed := true, recurses := true, apart := false }
def StateForgetsSaid : Prop := stateForgetsRow.holds Tryz.pinned (OpenSpec.ofChange stateForgetsSpec)

/-- ITS FALSE NEIGHBOUR: 'it returns false'. Refute it at one input. -/
def stateForgetsWrong : ChangeSpec := { name := "stateForgets", fn := fun _ => fun
  | [d1, d2] => { results := [.lit (.bool false)], args := [d1, d2] }
  | _ => none }
def StateForgetsWrongFalsely : Prop := stateForgetsRow.holds Tryz.pinned (OpenSpec.ofChange stateForgetsWrong)

/-- 'sacristanlaw30.BootGone': WHATEVER THE INPUT: true; the input reads as it did. -/
def bootGoneSpec : ChangeSpec := { name := "bootGone", fn := fun _ => fun
  | [d1, d2, d3, d4] => { results := [.lit (.bool true)], args := [d1, d2, d3, d4] }
  | _ => none }
def bootGoneRow : OpenClaim := { program := "ytdblhmpcilihnaagreat", sum := "0142af0430b4f1b7cb7b04874a77761a1126f90fa0b44f50c7af702c9298fc6a", func := "sacristan/sacristanlaw30.BootGone", spec := "bootGone", unfollowed := true, recurses := true, apart := false }
def BootGoneSaid : Prop := bootGoneRow.holds Tryz.pinned (OpenSpec.ofChange bootGoneSpec)

/-- ITS FALSE NEIGHBOUR: 'it returns false'. Refute it at one input. -/
def bootGoneWrong : ChangeSpec := { name := "bootGone", fn := fun _ => fun
  | [d1, d2, d3, d4] => { results := [.lit (.bool false)], args := [d1, d2, d3, d4] }
  | _ => none }
def BootGoneWrongFalsely : Prop := bootGoneRow.holds Tryz.pinned (OpenSpec.ofChange bootGoneWrong)

/-- 'sacristanlaw20.StateBends': WHATEVER THE INPUT: true; the input reads as it did. -/
def stateBendsSpec : ChangeSpec := { name := "stateBends", fn := fun _ => fun
  | [d1, d2, d3, d4] => { results := [.lit (.bool true)], args := [d1, d2, d3, d4] }
  | _ => none }
def stateBendsRow : OpenClaim := { program := "ytdblhmpcilihnaagreat", sum := "0142af0430b4f1b7cb7b04874a77761a1126f90fa0b44f50c7af702c9298fc6a", func := "sacristan/sacristanlaw20.StateBends", spec := "stateBends", unfollowed := true, recurses := true, apart := false }
def StateBendsSaid : Prop := stateBendsRow.holds Tryz.pinned (OpenSpec.ofChange stateBendsSpec)

/-- ITS FALSE NEIGHBOUR: 'it returns false'. Refute it at one input. -/
def stateBendsWrong : ChangeSpec := { name := "stateBends", fn := fun _ => fun
  | [d1, d2, d3, d4] => { results := [.lit (.bool false)], args := [d1, d2, d3, d4] }
  | _ => none }
def StateBendsWrongFalsely : Prop := stateBendsRow.holds Tryz.pinned (OpenSpec.ofChange stateBendsWrong)

/-- 'sacristanlaw20.StateFolds': WHATEVER THE INPUT: true; the input reads as it did. -/
def stateFoldsSpec : ChangeSpec := { name := "stateFolds", fn := fun _ => fun
  | [d1, d2, d3] => { results := [.lit (.bool true)], args := [d1, d2, d3] }
  | _ => none }
def stateFoldsRow : OpenClaim := { program := "ytdblhmpcilihnaagreat", sum := "0142af0430b4f1b7cb7b04874a77761a1126f90fa0b44f50c7af702c9298fc6a", func := "sacristan/sacristanlaw20.StateFolds", spec := "stateFolds", unfollowed := true, recurses := true, apart := false }
def StateFoldsSaid : Prop := stateFoldsRow.holds Tryz.pinned (OpenSpec.ofChange stateFoldsSpec)

/-- ITS FALSE NEIGHBOUR: 'it returns false'. Refute it at one input. -/
def stateFoldsWrong : ChangeSpec := { name := "stateFolds", fn := fun _ => fun
  | [d1, d2, d3] => { results := [.lit (.bool false)], args := [d1, d2, d3] }
  | _ => none }
def StateFoldsWrongFalsely : Prop := stateFoldsRow.holds Tryz.pinned (OpenSpec.ofChange stateFoldsWrong)

/-- 'sacristanlaw31.PlanApplies': WHATEVER THE INPUT: true; the input reads as it did. -/
def planAppliesSpec : ChangeSpec := { name := "planApplies", fn := fun _ => fun
  | [d1, d2, d3, d4, d5, d6] => { results := [.lit (.bool true)], args := [d1, d2, d3, d4, d5, d6] }
  | _ => none }
def planAppliesRow : OpenClaim := { program := "ytdblhmpcilihnaagreat", sum := "0142af0430b4f1b7cb7b04874a77761a1126f90fa0b44f50c7af702c9298fc6a", func := "sacristan/sacristanlaw31.PlanApplies", spec := "planApplies", unfollowed := true, recurses := true, apart := false }
def PlanAppliesSaid : Prop := planAppliesRow.holds Tryz.pinned (OpenSpec.ofChange planAppliesSpec)

/-- ITS FALSE NEIGHBOUR: 'it returns false'. Refute it at one input. -/
def planAppliesWrong : ChangeSpec := { name := "planApplies", fn := fun _ => fun
  | [d1, d2, d3, d4, d5, d6] => { results := [.lit (.bool false)], args := [d1, d2, d3, d4, d5, d6] }
  | _ => none }
def PlanAppliesWrongFalsely : Prop := planAppliesRow.holds Tryz.pinned (OpenSpec.ofChange planAppliesWrong)

/-- 'sacristanlaw31.PlanSettles': WHATEVER THE INPUT: true; the input reads as it did. -/
def planSettlesSpec : ChangeSpec := { name := "planSettles", fn := fun _ => fun
  | [d1, d2, d3, d4, d5] => { results := [.lit (.bool true)], args := [d1, d2, d3, d4, d5] }
  | _ => none }
def planSettlesRow : OpenClaim := { program := "ytdblhmpcilihnaagreat", sum := "0142af0430b4f1b7cb7b04874a77761a1126f90fa0b44f50c7af702c9298fc6a", func := "sacristan/sacristanlaw31.PlanSettles", spec := "planSettles", unfollowed := true, recurses := true, apart := false }
def PlanSettlesSaid : Prop := planSettlesRow.holds Tryz.pinned (OpenSpec.ofChange planSettlesSpec)

/-- ITS FALSE NEIGHBOUR: 'it returns false'. Refute it at one input. -/
def planSettlesWrong : ChangeSpec := { name := "planSettles", fn := fun _ => fun
  | [d1, d2, d3, d4, d5] => { results := [.lit (.bool false)], args := [d1, d2, d3, d4, d5] }
  | _ => none }
def PlanSettlesWrongFalsely : Prop := planSettlesRow.holds Tryz.pinned (OpenSpec.ofChange planSettlesWrong)

/- THE SECOND FORM. 'bulk': how many values and letters a reading holds, each counted each time it is reached (what is shared counts as often as it is met; a slice's spare places count too). A statement '..UptoSaid' is the law's where the arguments, and the package variables that the reading takes, are together of bulk at most 1048576: NARROWER than '..Said'. Prove '..Said' where nothing that the law and all that it calls make is longer than what came in: it says more and counts as full. Else prove '..UptoSaid'. A law counts once. -/
mutual
def uptoBulk {H : Type} : DataW H → Nat
  | .lit (.string bytes) => bytes.length + 1
  | .lit _ => 1
  | .nil => 1
  | .ptr d => uptoBulk d + 1
  | .slice elems spare => uptoBulkAll elems + uptoBulkAll spare + 1
  | .agg parts => uptoBulkAll parts + 1
  | .iface _ d => uptoBulk d + 1
  | .map entries => uptoBulkEntries entries + 1
  | .held _ => 1
def uptoBulkAll {H : Type} : List (DataW H) → Nat
  | [] => 0
  | d :: r => uptoBulk d + uptoBulkAll r
def uptoBulkEntries {H : Type} : List (Lit × DataW H) → Nat
  | [] => 0
  | x :: r => uptoBulkEntry x + uptoBulkEntries r
def uptoBulkEntry {H : Type} : Lit × DataW H → Nat
  | (.string bytes, d) => bytes.length + uptoBulk d + 1
  | (_, d) => uptoBulk d + 1
 end
def uptoSmall : (H : Type) → List (DataW H) → Bool := fun _ ds => decide (uptoBulkAll ds ≤ 1048576)
def OpenSpec.upto (s : _root_.Go.ChangeSpec) : _root_.Go.OpenSpec := { _root_.Go.OpenSpec.ofChange s with cond := some uptoSmall }

/-- 'sacristanlaw20.StateNames', WHERE WHAT IT READS IS OF BULK AT MOST 1048576: true; the input reads as it did. -/
def stateNamesUptoRow : OpenClaim := { program := "ytdblhmpcilihnaagreat", sum := "0142af0430b4f1b7cb7b04874a77761a1126f90fa0b44f50c7af702c9298fc6a", func := "sacristan/sacristanlaw20.StateNames", spec := "stateNames", unfollowed := true, recurses := true, apart := false, narrowed := true }
def StateNamesUptoSaid : Prop := stateNamesUptoRow.holds Tryz.pinned (OpenSpec.upto stateNamesSpec)

/-- 'sacristanlaw20.StateMatches', WHERE WHAT IT READS IS OF BULK AT MOST 1048576: true; the input reads as it did. -/
def stateMatchesUptoRow : OpenClaim := { program := "ytdblhmpcilihnaagreat", sum := "0142af0430b4f1b7cb7b04874a77761a1126f90fa0b44f50c7af702c9298fc6a", func := "sacristan/sacristanlaw20.StateMatches", spec := "stateMatches", unfollowed := true, recurses := true, apart := false, narrowed := true }
def StateMatchesUptoSaid : Prop := stateMatchesUptoRow.holds Tryz.pinned (OpenSpec.upto stateMatchesSpec)

/-- 'sacristanlaw20.StateKeeps', WHERE WHAT IT READS IS OF BULK AT MOST 1048576: true; the input reads as it did. -/
def stateKeepsUptoRow : OpenClaim := { program := "ytdblhmpcilihnaagreat", sum := "0142af0430b4f1b7cb7b04874a77761a1126f90fa0b44f50c7af702c9298fc6a", func := "sacristan/sacristanlaw20.StateKeeps", spec := "stateKeeps", unfollowed := true, recurses := true, apart := false, narrowed := true }
def StateKeepsUptoSaid : Prop := stateKeepsUptoRow.holds Tryz.pinned (OpenSpec.upto stateKeepsSpec)

/-- 'sacristanlaw20.StateOne', WHERE WHAT IT READS IS OF BULK AT MOST 1048576: true; the input reads as it did. -/
def stateOneUptoRow : OpenClaim := { program := "ytdblhmpcilihnaagreat", sum := "0142af0430b4f1b7cb7b04874a77761a1126f90fa0b44f50c7af702c9298fc6a", func := "sacristan/sacristanlaw20.StateOne", spec := "stateOne", unfollowed := true, recurses := true, apart := false, narrowed := true }
def StateOneUptoSaid : Prop := stateOneUptoRow.holds Tryz.pinned (OpenSpec.upto stateOneSpec)

/-- 'sacristanlaw20.StateForgets', WHERE WHAT IT READS IS OF BULK AT MOST 1048576: true; the input reads as it did. -/
def stateForgetsUptoRow : OpenClaim := { program := "ytdblhmpcilihnaagreat", sum := "0142af0430b4f1b7cb7b04874a77761a1126f90fa0b44f50c7af702c9298fc6a", func := "sacristan/sacristanlaw20.StateForgets", spec := "stateForgets", unfollowed := true, recurses := true, apart := false, narrowed := true }
def StateForgetsUptoSaid : Prop := stateForgetsUptoRow.holds Tryz.pinned (OpenSpec.upto stateForgetsSpec)

/-- 'sacristanlaw30.BootGone', WHERE WHAT IT READS IS OF BULK AT MOST 1048576: true; the input reads as it did. -/
def bootGoneUptoRow : OpenClaim := { program := "ytdblhmpcilihnaagreat", sum := "0142af0430b4f1b7cb7b04874a77761a1126f90fa0b44f50c7af702c9298fc6a", func := "sacristan/sacristanlaw30.BootGone", spec := "bootGone", unfollowed := true, recurses := true, apart := false, narrowed := true }
def BootGoneUptoSaid : Prop := bootGoneUptoRow.holds Tryz.pinned (OpenSpec.upto bootGoneSpec)

/-- 'sacristanlaw20.StateBends', WHERE WHAT IT READS IS OF BULK AT MOST 1048576: true; the input reads as it did. -/
def stateBendsUptoRow : OpenClaim := { program := "ytdblhmpcilihnaagreat", sum := "0142af0430b4f1b7cb7b04874a77761a1126f90fa0b44f50c7af702c9298fc6a", func := "sacristan/sacristanlaw20.StateBends", spec := "stateBends", unfollowed := true, recurses := true, apart := false, narrowed := true }
def StateBendsUptoSaid : Prop := stateBendsUptoRow.holds Tryz.pinned (OpenSpec.upto stateBendsSpec)

/-- 'sacristanlaw20.StateFolds', WHERE WHAT IT READS IS OF BULK AT MOST 1048576: true; the input reads as it did. -/
def stateFoldsUptoRow : OpenClaim := { program := "ytdblhmpcilihnaagreat", sum := "0142af0430b4f1b7cb7b04874a77761a1126f90fa0b44f50c7af702c9298fc6a", func := "sacristan/sacristanlaw20.StateFolds", spec := "stateFolds", unfollowed := true, recurses := true, apart := false, narrowed := true }
def StateFoldsUptoSaid : Prop := stateFoldsUptoRow.holds Tryz.pinned (OpenSpec.upto stateFoldsSpec)

/-- 'sacristanlaw31.PlanApplies', WHERE WHAT IT READS IS OF BULK AT MOST 1048576: true; the input reads as it did. -/
def planAppliesUptoRow : OpenClaim := { program := "ytdblhmpcilihnaagreat", sum := "0142af0430b4f1b7cb7b04874a77761a1126f90fa0b44f50c7af702c9298fc6a", func := "sacristan/sacristanlaw31.PlanApplies", spec := "planApplies", unfollowed := true, recurses := true, apart := false, narrowed := true }
def PlanAppliesUptoSaid : Prop := planAppliesUptoRow.holds Tryz.pinned (OpenSpec.upto planAppliesSpec)

/-- 'sacristanlaw31.PlanSettles', WHERE WHAT IT READS IS OF BULK AT MOST 1048576: true; the input reads as it did. -/
def planSettlesUptoRow : OpenClaim := { program := "ytdblhmpcilihnaagreat", sum := "0142af0430b4f1b7cb7b04874a77761a1126f90fa0b44f50c7af702c9298fc6a", func := "sacristan/sacristanlaw31.PlanSettles", spec := "planSettles", unfollowed := true, recurses := true, apart := false, narrowed := true }
def PlanSettlesUptoSaid : Prop := planSettlesUptoRow.holds Tryz.pinned (OpenSpec.upto planSettlesSpec)

end Rows
end Go.Proofs.YtdblhmpcilihnaaGreat
