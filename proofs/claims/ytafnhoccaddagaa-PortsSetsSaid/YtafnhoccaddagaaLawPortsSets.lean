/- PortsSets: for every input the law returns true and the input reads as it did. No condition beyond the given statement. -/
import Derived.Test.YtafnhoccaddagaaRows
import Derived.Test.YtafnhoccaddagaaData
import Derived.Test.YtafnhoccaddagaaRows
import Derived.WalkKit
import Derived.ProofKit
import Derived.Lib.Hide
import Derived.Deep.RegionHeld3
import Derived.Deep.DeepCutAuto
import Derived.Deep.LoopGhost
import Derived.BigQuiet
import Derived.WalkLawsBesides
import Derived.WalkSpells
import Derived.Test.YtafnhoccaddagaaWords3
import Derived.Test.YtafnhoccaddagaaPortsSets
import Derived.OpenShut
import Derived.ShutString
import Derived.Carry
namespace Go.Proofs.Ytafnhoccaddagaa.portsSets
open Go.ChangeShapes Go.WideShapes Go.ChangeAt Go.RowKit
open Go.ChangeMaps (open_string shut_string)
set_option linter.unusedVariables false
set_option linter.unusedSimpArgs false
theorem laidOut : laidOutB Try.prog = true := by kernel_rfl
theorem own : ownKnob Try.prog.godebug = none := by kernel_rfl
theorem walk (w : World) (a : List Int) (Aa : Option Addr) (ca : Nat) (K_a : (Kn.slice (Kn.int .i64)).K w a [.slice Aa a.length ca]) (W_a : (Kn.slice (Kn.int .i64)).Wf a) (b : List Int) (Ab : Option Addr) (cb : Nat) (K_b : (Kn.slice (Kn.int .i64)).K w b [.slice Ab b.length cb]) (W_b : (Kn.slice (Kn.int .i64)).Wf b) (other : Int) (w_other : (Lit.int .i64 other).wf = true) :
    Calls Try.prog 6 #[.slice Aa a.length ca, .slice Ab b.length cb, .int .i64 other] w fun e w' => e = .returned (.bool true) ∧ Below w.heap.size w w' := by
  obtain ⟨_, _, ea, hca, hsa⟩ := K_a
  obtain ⟨_, _, eb, hcb, hsb⟩ := K_b
  simp only [List.cons.injEq, Value.slice.injEq, and_true, true_and] at ea eb
  obtain ⟨rfl, rfl⟩ := ea
  obtain ⟨rfl, rfl⟩ := eb
  exact sets_any hca hcb hsa hsb W_a.2 W_b.2 other

set_option maxRecDepth 100000 in
set_option maxHeartbeats 1000000 in
theorem lifted (os : Os) (started : os.Started) (H : Type) (enc : TypeId × Value → H) :
    ReturnsInHanded {} Try.checked os 6 .any (Rows.portsSetsSpec.pre6 enc Try.prog Try.f6 Rows.portsSetsRow.domain false) (Rows.portsSetsSpec.post enc Try.prog Try.f6 false true false false) := by
  refine returnsInHanded_of_change (C := Try.checked) own started (by kernel_rfl) Try.func6
    (ChangeSpec.witness6 (enc := enc) (C := Try.checked) false ⟨#[], #[.slice none 0 0, .slice none 0 0, .int .i64 0], []⟩ 8 (by kernel_rfl) (by kernel_rfl) (by kernel_rfl) (by kernel_rfl)) ?_
  intro W base args ds gs before hval0 hW hcnd _
  have hval : ∀ (j : Nat) t v, Try.f6.params[j]? = some t → args[j]? = some v → Value.okWide Try.prog W .any base t v := hval0
  have hW' := hW
  obtain ⟨p, q, hA0, hV, rfl, hfz, hnd⟩ := hW
  have hA : DataW.TrodAll enc Try.prog W 0 (fun _ => true) true Try.f6.params.toList args.toList ds p := hA0
  rw [Try.params6] at hA hval
  obtain ⟨v0, vs0, d0, ds0, p0, q0, hargs, rfl, rfl, h0, r0⟩ := trodAll_cons hA
  obtain ⟨v1, vs1, d1, ds1, p1, q1, rfl, rfl, rfl, h1, r1⟩ := trodAll_cons r0
  obtain ⟨v2, vs2, d2, ds2, p2, q2, rfl, rfl, rfl, h2, r2⟩ := trodAll_cons r1
  obtain ⟨rfl, rfl, rfl⟩ := trodAll_nil r2
  obtain rfl : args = #[v0, v1, v2] := by cases args; simp_all
  obtain ⟨rfl, rfl⟩ := trodVars_none hV
  have k0 := h0
  have lt0 : ∀ x ∈ p0, x.block < W.heap.size := by obtain ⟨m, hm⟩ := k0; exact DataW.trod_lt m _ _ _ hm
  obtain ⟨a0, len0, cap0, rfl⟩ := okWide_slice Try.underlying22 (hval 0 22 v0 rfl rfl)
  obtain ⟨fu0, hf0⟩ := h0
  obtain ⟨a, K_a, W_a⟩ := (Kn.opens_slice Try.underlying22 (by kernel_rfl) (Kn.opens_int Try.underlying3)).out enc W 0 _ _ fu0 _ _ hf0
  obtain ⟨Aa, ca, e0, l0, s0⟩ := K_a
  simp only [Value.cells, List.cons.injEq, Value.slice.injEq, and_true] at e0
  obtain ⟨rfl, rfl, rfl⟩ := e0
  have K_a : (Kn.slice (Kn.int .i64)).K W a [.slice a0 a.length cap0] := ⟨_, _, rfl, l0, s0⟩
  have k1 := h1
  have lt1 : ∀ x ∈ p1, x.block < W.heap.size := by obtain ⟨m, hm⟩ := k1; exact DataW.trod_lt m _ _ _ hm
  obtain ⟨a1, len1, cap1, rfl⟩ := okWide_slice Try.underlying22 (hval 1 22 v1 rfl rfl)
  obtain ⟨fu1, hf1⟩ := h1
  obtain ⟨b, K_b, W_b⟩ := (Kn.opens_slice Try.underlying22 (by kernel_rfl) (Kn.opens_int Try.underlying3)).out enc W 0 _ _ fu1 _ _ hf1
  obtain ⟨Ab, cb, e1, l1, s1⟩ := K_b
  simp only [Value.cells, List.cons.injEq, Value.slice.injEq, and_true] at e1
  obtain ⟨rfl, rfl, rfl⟩ := e1
  have K_b : (Kn.slice (Kn.int .i64)).K W b [.slice a1 b.length cap1] := ⟨_, _, rfl, l1, s1⟩
  obtain ⟨other, rfl, rfl, rfl, w_other⟩ := open_int Try.underlying3 (hval 2 3 v2 rfl rfl) h2
  clear hA0 hval0
  simp only [List.append_nil] at hW'
  refine (walk W a a0 cap0 K_a W_a b a1 cap1 K_b W_b other w_other).mono fun e W' ⟨he, bel⟩ => ?_
  subst he
  exact ⟨_, rfl, post_of_trod (pa := (p0 ++ (p1 ++ ([] ++ [])))) (pv := []) hW' (fun _ _ _ => (trodAll_cons_mk (shut_bool Try.underlying4 _) trodAll_mk0)) (trodAll_cons_mk (Below.trod laidOut (by kernel_rfl) (of_decide_eq_true (by kernel_rfl)) k0 bel lt0) (trodAll_cons_mk (Below.trod laidOut (by kernel_rfl) (of_decide_eq_true (by kernel_rfl)) k1 bel lt1) (trodAll_cons_mk (shut_int Try.underlying3 w_other) trodAll_mk0))) (fun _ => rfl) (by simp) bel⟩

theorem over : Rows.portsSetsRow.holds Try.pinned (OpenSpec.ofChange Rows.portsSetsSpec) :=
  OpenClaim.holds_of_wide 6 Try.f6 rfl rfl rfl rfl rfl rfl rfl ⟨rfl, rfl, rfl, rfl, rfl⟩ rfl rfl rfl rfl rfl (by kernel_rfl) Try.func6 (by kernel_rfl)
    (of_decide_eq_true (by kernel_rfl)) (by unfold Func.isWrapper; first | (rw [if_pos (by decide +kernel)]; kernel_rfl) | (rw [if_neg (by decide +kernel)]; exact ⟨rfl, rfl⟩))
    (fun os started H enc _ => lifted os started H enc)
theorem proved : Rows.PortsSetsSaid :=
  over
#print axioms proved
end Go.Proofs.Ytafnhoccaddagaa.portsSets
