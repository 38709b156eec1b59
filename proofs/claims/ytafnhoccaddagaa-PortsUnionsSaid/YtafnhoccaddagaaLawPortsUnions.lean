/- PortsUnions: for every input the law returns true and the input reads as it did. No condition beyond the given statement. -/
import Derived.Test.YtafnhoccaddagaaRows
import Derived.Test.YtafnhoccaddagaaData
import Derived.Test.YtafnhoccaddagaaRows
import Derived.WalkKit
import Derived.ProofKit
import Derived.Lib.Hide
import Derived.Deep.RegionHeld3
import Derived.Deep.DeepCutAuto
import Derived.Deep.LoopGhost
import Derived.BigQuiet
import Derived.WalkLawsBesides
import Derived.WalkSpells
import Derived.Test.YtafnhoccaddagaaWords3
import Derived.Test.YtafnhoccaddagaaPortsUnions
import Derived.OpenShut
import Derived.ShutString
import Derived.Carry
namespace Go.Proofs.Ytafnhoccaddagaa.portsUnions
open Go.ChangeShapes Go.WideShapes Go.ChangeAt Go.RowKit
open Go.ChangeMaps (open_string shut_string)
set_option linter.unusedVariables false
set_option linter.unusedSimpArgs false
theorem laidOut : laidOutB Try.prog = true := by kernel_rfl
theorem own : ownKnob Try.prog.godebug = none := by kernel_rfl
theorem walk (w : World) (l : List (List Int)) (Al : Option Addr) (cl : Nat) (K_l : (Kn.slice (Kn.slice (Kn.int .i64))).K w l [.slice Al l.length cl]) (W_l : (Kn.slice (Kn.slice (Kn.int .i64))).Wf l) :
    Calls Try.prog 4 #[.slice Al l.length cl] w fun e w' => e = .returned (.bool true) ∧ Below w.heap.size w w' := by
  obtain ⟨_, _, ea, hca, hsa⟩ := K_l
  simp only [List.cons.injEq, Value.slice.injEq, and_true, true_and] at ea
  obtain ⟨rfl, rfl⟩ := ea
  exact unions_any hca hsa (fun x hx => (W_l.2 x hx).2)

set_option maxRecDepth 100000 in
set_option maxHeartbeats 1000000 in
theorem lifted (os : Os) (started : os.Started) (H : Type) (enc : TypeId × Value → H) :
    ReturnsInHanded {} Try.checked os 4 .any (Rows.portsUnionsSpec.pre6 enc Try.prog Try.f4 Rows.portsUnionsRow.domain false) (Rows.portsUnionsSpec.post enc Try.prog Try.f4 false true false false) := by
  refine returnsInHanded_of_change (C := Try.checked) own started (by kernel_rfl) Try.func4
    (ChangeSpec.witness6 (enc := enc) (C := Try.checked) false ⟨#[], #[.slice none 0 0], []⟩ 8 (by kernel_rfl) (by kernel_rfl) (by kernel_rfl) (by kernel_rfl)) ?_
  intro W base args ds gs before hval0 hW hcnd _
  have hval : ∀ (j : Nat) t v, Try.f4.params[j]? = some t → args[j]? = some v → Value.okWide Try.prog W .any base t v := hval0
  have hW' := hW
  obtain ⟨p, q, hA0, hV, rfl, hfz, hnd⟩ := hW
  have hA : DataW.TrodAll enc Try.prog W 0 (fun _ => true) true Try.f4.params.toList args.toList ds p := hA0
  rw [Try.params4] at hA hval
  obtain ⟨v0, vs0, d0, ds0, p0, q0, hargs, rfl, rfl, h0, r0⟩ := trodAll_cons hA
  obtain ⟨rfl, rfl, rfl⟩ := trodAll_nil r0
  obtain rfl : args = #[v0] := by cases args; simp_all
  obtain ⟨rfl, rfl⟩ := trodVars_none hV
  have k0 := h0
  have lt0 : ∀ x ∈ p0, x.block < W.heap.size := by obtain ⟨m, hm⟩ := k0; exact DataW.trod_lt m _ _ _ hm
  obtain ⟨a0, len0, cap0, rfl⟩ := okWide_slice Try.underlying32 (hval 0 32 v0 rfl rfl)
  obtain ⟨fu0, hf0⟩ := h0
  obtain ⟨l, K_l, W_l⟩ := (Kn.opens_slice Try.underlying32 (by kernel_rfl) (Kn.opens_slice Try.underlying22 (by kernel_rfl) (Kn.opens_int Try.underlying3))).out enc W 0 _ _ fu0 _ _ hf0
  obtain ⟨Al, cl, e0, l0, s0⟩ := K_l
  simp only [Value.cells, List.cons.injEq, Value.slice.injEq, and_true] at e0
  obtain ⟨rfl, rfl, rfl⟩ := e0
  have K_l : (Kn.slice (Kn.slice (Kn.int .i64))).K W l [.slice a0 l.length cap0] := ⟨_, _, rfl, l0, s0⟩
  clear hA0 hval0
  simp only [List.append_nil] at hW'
  refine (walk W l a0 cap0 K_l W_l).mono fun e W' ⟨he, bel⟩ => ?_
  subst he
  exact ⟨_, rfl, post_of_trod (pa := (p0 ++ [])) (pv := []) hW' (fun _ _ _ => (trodAll_cons_mk (shut_bool Try.underlying4 _) trodAll_mk0)) (trodAll_cons_mk (Below.trod laidOut (by kernel_rfl) (of_decide_eq_true (by kernel_rfl)) k0 bel lt0) trodAll_mk0) (fun _ => rfl) (by simp) bel⟩

theorem over : Rows.portsUnionsRow.holds Try.pinned (OpenSpec.ofChange Rows.portsUnionsSpec) :=
  OpenClaim.holds_of_wide 4 Try.f4 rfl rfl rfl rfl rfl rfl rfl ⟨rfl, rfl, rfl, rfl, rfl⟩ rfl rfl rfl rfl rfl (by kernel_rfl) Try.func4 (by kernel_rfl)
    (of_decide_eq_true (by kernel_rfl)) (by unfold Func.isWrapper; first | (rw [if_pos (by decide +kernel)]; kernel_rfl) | (rw [if_neg (by decide +kernel)]; exact ⟨rfl, rfl⟩))
    (fun os started H enc _ => lifted os started H enc)
theorem proved : Rows.PortsUnionsSaid :=
  over
#print axioms proved
end Go.Proofs.Ytafnhoccaddagaa.portsUnions
