/- PlanNexts: for every input the law returns true and the input reads as it did. No condition beyond the given statement. -/
import Derived.Test.YtajpldeffhagaaaRows
import Derived.Test.YtajpldeffhagaaaData
import Derived.Test.YtajpldeffhagaaaRows
import Derived.WalkKit
import Derived.ProofKit
import Derived.Lib.Hide
import Derived.Deep.RegionHeld3
import Derived.Deep.DeepCutAuto
import Derived.Deep.LoopGhost
import Derived.BigQuiet
import Derived.WalkLawsBesides
import Derived.WalkSpells
import Derived.Test.YtajpldeffhagaaaWords3
import Derived.Test.YtajpldeffhagaaaPlanNexts
import Derived.OpenShut
import Derived.ShutString
import Derived.Carry
namespace Go.Proofs.Ytajpldeffhagaaa.planNexts
open Go.ChangeShapes Go.WideShapes Go.ChangeAt Go.RowKit
open Go.ChangeMaps (open_string shut_string)
set_option linter.unusedVariables false
set_option linter.unusedSimpArgs false
theorem laidOut : laidOutB Try.prog = true := by kernel_rfl
theorem own : ownKnob Try.prog.godebug = none := by kernel_rfl
set_option maxRecDepth 100000 in
set_option maxHeartbeats 4000000 in
theorem walk (w : World) (t : Task) (At1 : Option Addr) (ct1 : Nat) (K_t : Task.kn.K w t (Task.cells t At1 ct1).toList) (W_t : Task.kn.Wf t) (k : Look) (K_k : Look.kn.K w k (Look.cells k).toList) (W_k : Look.kn.Wf k) (s : State) (As1 : Option Addr) (cs1 : Nat) (K_s : State.kn.K w s (State.cells s As1 cs1).toList) (W_s : State.kn.Wf s) (at0 at1 : Int) (w_at0 : (Lit.int .i64 at0).wf = true) (w_at1 : (Lit.int .i64 at1).wf = true) (x : Step) (K_x : Step.kn.K w x (Step.cells x).toList) (W_x : Step.kn.Wf x) :
    Calls Try.prog 3 #[Task.val t At1 ct1, Look.val k, State.val s As1 cs1, .agg #[.int .i64 at0, .int .i64 at1], Step.val x] w fun e w' => e = .returned (.bool true) ∧ Below w.heap.size w w' := by
  have h0 : 0 ≤ t.state := (bounds_u8 W_t.1).1
  have hx : 0 ≤ x.do_ := (bounds_u8 W_x.1).1
  exact law_of_pure (law_p t k s at0 at1 x h0 hx) (ars_cons (Task.enc.ar K_t) (ars_cons (Look.enc.ar K_k) (ars_cons (State.enc.ar K_s) (ars_cons ar_pair (ars_cons (Step.enc.ar K_x) ars_nil)))))

set_option maxRecDepth 100000 in
set_option maxHeartbeats 1000000 in
theorem lifted (os : Os) (started : os.Started) (H : Type) (enc : TypeId × Value → H) :
    ReturnsInHanded {} Try.checked os 3 .any (Rows.planNextsSpec.pre6 enc Try.prog Try.f3 Rows.planNextsRow.domain false) (Rows.planNextsSpec.post enc Try.prog Try.f3 false true false false) := by
  refine returnsInHanded_of_change (C := Try.checked) own started (by kernel_rfl) Try.func3
    (ChangeSpec.witness6 (enc := enc) (C := Try.checked) false ⟨#[], #[.agg #[.int .u8 0, .int .i64 0, .int .i64 0, .int .i64 0, .int .i64 0, .int .i64 0, .int .i64 0, .slice none 0 0], .agg #[.int .i64 0, .bool false, .bool false, .bool false, .bool false, .int .i64 0, .int .i64 0, .int .i64 0, .int .i64 0, .int .i64 0, .bool false, .bool false, .bool false, .int .i64 0, .bool false], .agg #[.int .i64 0, .int .i64 0, .int .i64 0, .int .i64 0, .slice none 0 0], .agg #[.int .i64 0, .int .i64 0], .agg #[.int .u8 0, .int .i64 0]], []⟩ 8 (by kernel_rfl) (by kernel_rfl) (by kernel_rfl) (by kernel_rfl)) ?_
  intro W base args ds gs before hval0 hW hcnd _
  have hval : ∀ (j : Nat) t v, Try.f3.params[j]? = some t → args[j]? = some v → Value.okWide Try.prog W .any base t v := hval0
  have hW' := hW
  obtain ⟨p, q, hA0, hV, rfl, hfz, hnd⟩ := hW
  have hA : DataW.TrodAll enc Try.prog W 0 (fun _ => true) true Try.f3.params.toList args.toList ds p := hA0
  rw [Try.params3] at hA hval
  obtain ⟨v0, vs0, d0, ds0, p0, q0, hargs, rfl, rfl, h0, r0⟩ := trodAll_cons hA
  obtain ⟨v1, vs1, d1, ds1, p1, q1, rfl, rfl, rfl, h1, r1⟩ := trodAll_cons r0
  obtain ⟨v2, vs2, d2, ds2, p2, q2, rfl, rfl, rfl, h2, r2⟩ := trodAll_cons r1
  obtain ⟨v3, vs3, d3, ds3, p3, q3, rfl, rfl, rfl, h3, r3⟩ := trodAll_cons r2
  obtain ⟨v4, vs4, d4, ds4, p4, q4, rfl, rfl, rfl, h4, r4⟩ := trodAll_cons r3
  obtain ⟨rfl, rfl, rfl⟩ := trodAll_nil r4
  obtain rfl : args = #[v0, v1, v2, v3, v4] := by cases args; simp_all
  obtain ⟨rfl, rfl⟩ := trodVars_none hV
  have k0 := h0
  have lt0 : ∀ x ∈ p0, x.block < W.heap.size := by obtain ⟨m, hm⟩ := k0; exact DataW.trod_lt m _ _ _ hm
  obtain ⟨cs0, rfl, _⟩ := okWide_struct Try.underlying24 (hval 0 24 v0 rfl rfl)
  obtain ⟨fu0, hf0⟩ := h0
  obtain ⟨t, K_t, W_t⟩ := (Task.opens).out enc W 0 _ _ fu0 _ _ hf0
  obtain ⟨At1, ct1, e0, _⟩ := Task.form K_t
  obtain rfl : cs0 = Task.cells t At1 ct1 := by cases cs0; simp [Value.cells] at e0; simp [Task.cells, e0]
  have k1 := h1
  have lt1 : ∀ x ∈ p1, x.block < W.heap.size := by obtain ⟨m, hm⟩ := k1; exact DataW.trod_lt m _ _ _ hm
  obtain ⟨cs1, rfl, _⟩ := okWide_struct Try.underlying30 (hval 1 30 v1 rfl rfl)
  obtain ⟨fu1, hf1⟩ := h1
  obtain ⟨k, K_k, W_k⟩ := (Look.opens).out enc W 0 _ _ fu1 _ _ hf1
  obtain e1 := Look.form K_k
  obtain rfl : cs1 = Look.cells k := by cases cs1; simp [Value.cells] at e1; simp [Look.cells, e1]
  have k2 := h2
  have lt2 : ∀ x ∈ p2, x.block < W.heap.size := by obtain ⟨m, hm⟩ := k2; exact DataW.trod_lt m _ _ _ hm
  obtain ⟨cs2, rfl, _⟩ := okWide_struct Try.underlying33 (hval 2 33 v2 rfl rfl)
  obtain ⟨fu2, hf2⟩ := h2
  obtain ⟨s, K_s, W_s⟩ := (State.opens).out enc W 0 _ _ fu2 _ _ hf2
  obtain ⟨As1, cs1, e2, _⟩ := State.form K_s
  obtain rfl : cs2 = State.cells s As1 cs1 := by cases cs2; simp [Value.cells] at e2; simp [State.cells, e2]
  have k3 := h3
  have lt3 : ∀ x ∈ p3, x.block < W.heap.size := by obtain ⟨m, hm⟩ := k3; exact DataW.trod_lt m _ _ _ hm
  obtain ⟨cs3, rfl, _⟩ := okWide_array Try.underlying34 (hval 3 34 v3 rfl rfl)
  obtain ⟨fu3, hf3⟩ := h3
  obtain ⟨⟨at0, at1⟩, ⟨_, _, e3, rfl, rfl⟩, w_at0, w_at1⟩ := (Kn.opens_array2 Try.underlying34 (by kernel_rfl) (by kernel_rfl) (Kn.opens_int Try.underlying3)).out enc W 0 _ _ fu3 _ _ hf3
  obtain rfl : cs3 = #[.int .i64 at0, .int .i64 at1] := by cases cs3; simp [Value.cells] at e3; simp [e3]
  have k4 := h4
  have lt4 : ∀ x ∈ p4, x.block < W.heap.size := by obtain ⟨m, hm⟩ := k4; exact DataW.trod_lt m _ _ _ hm
  obtain ⟨cs4, rfl, _⟩ := okWide_struct Try.underlying36 (hval 4 36 v4 rfl rfl)
  obtain ⟨fu4, hf4⟩ := h4
  obtain ⟨x, K_x, W_x⟩ := (Step.opens).out enc W 0 _ _ fu4 _ _ hf4
  obtain e4 := Step.form K_x
  obtain rfl : cs4 = Step.cells x := by cases cs4; simp [Value.cells] at e4; simp [Step.cells, e4]
  clear hA0 hval0
  simp only [List.append_nil] at hW'
  refine (walk W t At1 ct1 K_t W_t k K_k W_k s As1 cs1 K_s W_s at0 at1 w_at0 w_at1 x K_x W_x).mono fun e W' ⟨he, bel⟩ => ?_
  subst he
  exact ⟨_, rfl, post_of_trod (pa := (p0 ++ (p1 ++ (p2 ++ (p3 ++ (p4 ++ [])))))) (pv := []) hW' (fun _ _ _ => (trodAll_cons_mk (shut_bool Try.underlying4 _) trodAll_mk0)) (trodAll_cons_mk (Below.trod laidOut (by kernel_rfl) (of_decide_eq_true (by kernel_rfl)) k0 bel lt0) (trodAll_cons_mk (Below.trod laidOut (by kernel_rfl) (of_decide_eq_true (by kernel_rfl)) k1 bel lt1) (trodAll_cons_mk (Below.trod laidOut (by kernel_rfl) (of_decide_eq_true (by kernel_rfl)) k2 bel lt2) (trodAll_cons_mk (Below.trod laidOut (by kernel_rfl) (of_decide_eq_true (by kernel_rfl)) k3 bel lt3) (trodAll_cons_mk (Below.trod laidOut (by kernel_rfl) (of_decide_eq_true (by kernel_rfl)) k4 bel lt4) trodAll_mk0))))) (fun _ => rfl) (by simp) bel⟩

theorem over : Rows.planNextsRow.holds Try.pinned (OpenSpec.ofChange Rows.planNextsSpec) :=
  OpenClaim.holds_of_wide 3 Try.f3 rfl rfl rfl rfl rfl rfl rfl ⟨rfl, rfl, rfl, rfl, rfl⟩ rfl rfl rfl rfl rfl (by kernel_rfl) Try.func3 (by kernel_rfl)
    (of_decide_eq_true (by kernel_rfl)) (by unfold Func.isWrapper; first | (rw [if_pos (by decide +kernel)]; kernel_rfl) | (rw [if_neg (by decide +kernel)]; exact ⟨rfl, rfl⟩))
    (fun os started H enc _ => lifted os started H enc)
theorem proved : Rows.PlanNextsSaid :=
  over
#print axioms proved
end Go.Proofs.Ytajpldeffhagaaa.planNexts
