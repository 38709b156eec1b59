/- StateNames: for every input the law returns true and the input reads as it did. No condition beyond the given statement. -/
import Derived.Test.YtdblhmpcilihnaaGreatRows
import Derived.Test.YtdblhmpcilihnaaGreatData
import Derived.Test.YtdblhmpcilihnaaGreatRows
import Derived.WalkKit
import Derived.ProofKit
import Derived.Lib.Hide
import Derived.Deep.RegionHeld3
import Derived.Deep.DeepCutAuto
import Derived.Deep.LoopGhost
import Derived.BigQuiet
import Derived.WalkLawsBesides
import Derived.WalkSpells
import Derived.Test.YtdblhmpcilihnaaGreatWords3
import Derived.Test.YtdblhmpcilihnaaGreatH2
import Derived.OpenShut
import Derived.ShutString
import Derived.Carry
namespace Go.Proofs.YtdblhmpcilihnaaGreat.stateNames
open Go.ChangeShapes Go.WideShapes Go.ChangeAt Go.RowKit
open Go.ChangeMaps (open_string shut_string)
set_option linter.unusedVariables false
set_option linter.unusedSimpArgs false
theorem laidOut : laidOutB Tryz.prog = true := by kernel_rfl
theorem own : ownKnob Tryz.prog.godebug = none := by kernel_rfl
set_option maxRecDepth 100000 in
set_option maxHeartbeats 4000000 in
theorem walk (w : World)  :
    Calls Tryz.prog 3 #[] w fun e w' => e = .returned (.bool true) ∧ Below w.heap.size w w' := by
  exact law_of_pure names_p ars_nil

set_option maxRecDepth 100000 in
set_option maxHeartbeats 1000000 in
theorem lifted (os : Os) (started : os.Started) (H : Type) (enc : TypeId × Value → H) :
    ReturnsInHanded {} Tryz.checked os 3 .any (Rows.stateNamesSpec.pre6 enc Tryz.prog Tryz.f3 Rows.stateNamesRow.domain false) (Rows.stateNamesSpec.post enc Tryz.prog Tryz.f3 false true false false) := by
  refine returnsInHanded_of_change (C := Tryz.checked) own started (by kernel_rfl) Tryz.func3
    (ChangeSpec.witness6 (enc := enc) (C := Tryz.checked) false ⟨#[], #[], []⟩ 8 (by kernel_rfl) (by kernel_rfl) (by kernel_rfl) (by kernel_rfl)) ?_
  intro W base args ds gs before hval0 hW hcnd _
  have hval : ∀ (j : Nat) t v, Tryz.f3.params[j]? = some t → args[j]? = some v → Value.okWide Tryz.prog W .any base t v := hval0
  have hW' := hW
  obtain ⟨p, q, hA0, hV, rfl, hfz, hnd⟩ := hW
  have hA : DataW.TrodAll enc Tryz.prog W 0 (fun _ => true) true Tryz.f3.params.toList args.toList ds p := hA0
  rw [Tryz.params3] at hA hval
  obtain ⟨rfl, rfl, rfl⟩ := trodAll_none hA
  obtain ⟨rfl, rfl⟩ := trodVars_none hV
  clear hA0 hval0
  simp only [List.append_nil] at hW'
  refine (walk W ).mono fun e W' ⟨he, bel⟩ => ?_
  subst he
  exact ⟨_, rfl, post_of_trod (pa := []) (pv := []) hW' (fun _ _ _ => (trodAll_cons_mk (shut_bool Tryz.underlying4 _) trodAll_mk0)) trodAll_mk0 (fun _ => rfl) (by simp) bel⟩
theorem factIn : (Rows.stateNamesRow.inPlace == Tryz.pinned.checked.prog.inPlace 3) = true := by kernel_rfl
theorem factUn : (Rows.stateNamesRow.unfollowed == Tryz.pinned.checked.prog.unfollowed 3) = true := by kernel_rfl
theorem factRe : (Rows.stateNamesRow.recurses == Tryz.pinned.checked.prog.recurses 3) = true := by kernel_rfl
theorem factNa : (Rows.stateNamesRow.named == Tryz.pinned.checked.prog.varsNamed 3) = true := by kernel_rfl
theorem factSt : Tryz.pinned.checked.prog.stopsHeard = true := by kernel_rfl
theorem factEn : Tryz.pinned.checked.prog.mayEnter = true := by kernel_rfl
theorem factLi : (Rows.stateNamesRow.lifted == Tryz.pinned.checked.prog.liftsFinal) = true := by kernel_rfl
theorem factMa : (Tryz.pinned.checked.prog.make == some Rows.stateNamesRow.make) = true := by kernel_rfl
theorem factLa : laidOutB Tryz.pinned.checked.prog = true := by kernel_rfl
theorem factRo : mapsRowed Tryz.pinned.checked.prog = true := by kernel_rfl
theorem closed : joinedFacts Tryz.pinned.checked.prog 3 Tryz.f3 Rows.stateNamesSpec Rows.stateNamesRow = true := by
  unfold joinedFacts
  rw [factIn, factUn, factRe, factNa, factSt, factEn, factLi, factMa, factLa, factRo]
  kernel_rfl

theorem over : Rows.stateNamesRow.holds Tryz.pinned (OpenSpec.ofChange Rows.stateNamesSpec) :=
  OpenClaim.holds_of_wide 3 Tryz.f3 rfl rfl rfl rfl rfl rfl rfl ⟨rfl, rfl, rfl, rfl, rfl⟩ rfl rfl rfl rfl rfl (by kernel_rfl) Tryz.func3 closed
    (of_decide_eq_true (by kernel_rfl)) (by unfold Func.isWrapper; first | (rw [if_pos (by decide +kernel)]; kernel_rfl) | (rw [if_neg (by decide +kernel)]; exact ⟨rfl, rfl⟩))
    (fun os started H enc _ => lifted os started H enc)
theorem proved : Rows.StateNamesSaid :=
  over
#print axioms proved
end Go.Proofs.YtdblhmpcilihnaaGreat.stateNames
