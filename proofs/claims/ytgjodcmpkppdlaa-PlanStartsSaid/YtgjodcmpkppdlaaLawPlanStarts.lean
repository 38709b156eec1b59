/- PlanStarts: for every input the law returns true and the input reads as it did. No condition beyond the given statement. -/
import Derived.Test.YtgjodcmpkppdlaaRows
import Derived.Test.YtgjodcmpkppdlaaData
import Derived.Test.YtgjodcmpkppdlaaRows
import Derived.WalkKit
import Derived.ProofKit
import Derived.Lib.Hide
import Derived.Deep.RegionHeld3
import Derived.Deep.DeepCutAuto
import Derived.Deep.LoopGhost
import Derived.BigQuiet
import Derived.WalkLawsBesides
import Derived.WalkSpells
import Derived.Test.YtgjodcmpkppdlaaWords3
import Derived.Test.YtgjodcmpkppdlaaPlanStarts
import Derived.OpenShut
import Derived.ShutString
import Derived.Carry
namespace Go.Proofs.Ytgjodcmpkppdlaa.planStarts
open Go.ChangeShapes Go.WideShapes Go.ChangeAt Go.RowKit
open Go.ChangeMaps (open_string shut_string)
set_option linter.unusedVariables false
set_option linter.unusedSimpArgs false
theorem laidOut : laidOutB Try.prog = true := by kernel_rfl
theorem own : ownKnob Try.prog.godebug = none := by kernel_rfl
set_option maxRecDepth 100000 in
set_option maxHeartbeats 4000000 in
theorem walk (w : World) (t : Task) (At1 : Option Addr) (ct1 : Nat) (K_t : Task.kn.K w t (Task.cells t At1 ct1).toList) (W_t : Task.kn.Wf t) (k : Look) (K_k : Look.kn.K w k (Look.cells k).toList) (W_k : Look.kn.Wf k) :
    Calls Try.prog 3 #[Task.val t At1 ct1, Look.val k] w fun e w' => e = .returned (.bool true) ∧ Below w.heap.size w w' := by
  obtain ⟨_, _, hcs, ⟨hl, hc⟩, hs⟩ := Task.form K_t
  obtain ⟨rfl, rfl⟩ : At1 = _ ∧ ct1 = _ := by simpa [Task.cells] using hcs
  clear hcs K_t K_k W_k
  have h0 : 0 ≤ t.state := (bounds_u8 W_t.1).1
  clear W_t
  have HCK := Lib.hid (fun W (hs : Kn.Sl (Kn.int .i64) W At1 t.starts) => taskCheck_any t At1 ct1 W hl hc hs)
  have HS := Lib.hid hs
  by_cases hlen : 20 < t.starts.length
  · clear hs
    simp only [Task.val, Look.val]
    go_enter Try.func3, Try.ntmps3
    go_wp2_with fail
    go_ret
    exact ⟨rfl, (by repeat (first | exact Below.refl _ _ | assumption | refine Below.alloc ?_ (by first | omega | (simp; done) | (simp; omega)) _ | refine Below.setCell ?_ (by first | omega | (simp; done) | (simp; omega)) _ | refine Below.drew ?_ | refine below_drewN ?_ _ | refine Below.next ?_ (by assumption)))⟩
  · cases hok : t.ok
    · have he : (t.err != 0) = true := by rw [err_no hok]; rfl
      clear hs hok
      simp only [Task.val, Look.val]
      go_enter Try.func3, Try.ntmps3
      go_wp2_with fail
      refine (HCK.out _ (Kn.Sl.below HS.out (by repeat (first | exact Below.refl _ _ | assumption | refine Below.alloc ?_ (by first | omega | (simp; done) | (simp; omega)) _ | refine Below.setCell ?_ (by first | omega | (simp; done) | (simp; omega)) _ | refine Below.drew ?_ | refine below_drewN ?_ _ | refine Below.next ?_ (by assumption))))).mono ?_
      rintro e w1 ⟨rfl, hb⟩
      go_wp2_with fail
      go_ret
      exact ⟨rfl, (by repeat (first | exact Below.refl _ _ | assumption | refine Below.alloc ?_ (by first | omega | (simp; done) | (simp; omega)) _ | refine Below.setCell ?_ (by first | omega | (simp; done) | (simp; omega)) _ | refine Below.drew ?_ | refine below_drewN ?_ _ | refine Below.next ?_ (by assumption)))⟩
    · exact planStarts_ok t k At1 ct1 w hl hc hs h0 hlen hok

set_option maxRecDepth 100000 in
set_option maxHeartbeats 1000000 in
theorem lifted (os : Os) (started : os.Started) (H : Type) (enc : TypeId × Value → H) :
    ReturnsInHanded {} Try.checked os 3 .any (Rows.planStartsSpec.pre6 enc Try.prog Try.f3 Rows.planStartsRow.domain false) (Rows.planStartsSpec.post enc Try.prog Try.f3 false true false false) := by
  refine returnsInHanded_of_change (C := Try.checked) own started (by kernel_rfl) Try.func3
    (ChangeSpec.witness6 (enc := enc) (C := Try.checked) false ⟨#[], #[.agg #[.int .u8 0, .int .i64 0, .int .i64 0, .int .i64 0, .int .i64 0, .int .i64 0, .int .i64 0, .slice none 0 0], .agg #[.int .i64 0, .bool false, .bool false, .bool false, .bool false, .int .i64 0, .int .i64 0, .int .i64 0, .int .i64 0, .int .i64 0, .bool false, .bool false, .bool false, .int .i64 0, .bool false]], []⟩ 8 (by kernel_rfl) (by kernel_rfl) (by kernel_rfl) (by kernel_rfl)) ?_
  intro W base args ds gs before hval0 hW hcnd _
  have hval : ∀ (j : Nat) t v, Try.f3.params[j]? = some t → args[j]? = some v → Value.okWide Try.prog W .any base t v := hval0
  have hW' := hW
  obtain ⟨p, q, hA0, hV, rfl, hfz, hnd⟩ := hW
  have hA : DataW.TrodAll enc Try.prog W 0 (fun _ => true) true Try.f3.params.toList args.toList ds p := hA0
  rw [Try.params3] at hA hval
  obtain ⟨v0, vs0, d0, ds0, p0, q0, hargs, rfl, rfl, h0, r0⟩ := trodAll_cons hA
  obtain ⟨v1, vs1, d1, ds1, p1, q1, rfl, rfl, rfl, h1, r1⟩ := trodAll_cons r0
  obtain ⟨rfl, rfl, rfl⟩ := trodAll_nil r1
  obtain rfl : args = #[v0, v1] := by cases args; simp_all
  obtain ⟨rfl, rfl⟩ := trodVars_none hV
  have k0 := h0
  have lt0 : ∀ x ∈ p0, x.block < W.heap.size := by obtain ⟨m, hm⟩ := k0; exact DataW.trod_lt m _ _ _ hm
  obtain ⟨cs0, rfl, _⟩ := okWide_struct Try.underlying24 (hval 0 24 v0 rfl rfl)
  obtain ⟨fu0, hf0⟩ := h0
  obtain ⟨t, K_t, W_t⟩ := (Task.opens).out enc W 0 _ _ fu0 _ _ hf0
  obtain ⟨At1, ct1, e0, _⟩ := Task.form K_t
  obtain rfl : cs0 = Task.cells t At1 ct1 := by cases cs0; simp [Value.cells] at e0; simp [Task.cells, e0]
  have k1 := h1
  have lt1 : ∀ x ∈ p1, x.block < W.heap.size := by obtain ⟨m, hm⟩ := k1; exact DataW.trod_lt m _ _ _ hm
  obtain ⟨cs1, rfl, _⟩ := okWide_struct Try.underlying30 (hval 1 30 v1 rfl rfl)
  obtain ⟨fu1, hf1⟩ := h1
  obtain ⟨k, K_k, W_k⟩ := (Look.opens).out enc W 0 _ _ fu1 _ _ hf1
  obtain e1 := Look.form K_k
  obtain rfl : cs1 = Look.cells k := by cases cs1; simp [Value.cells] at e1; simp [Look.cells, e1]
  clear hA0 hval0
  simp only [List.append_nil] at hW'
  refine (walk W t At1 ct1 K_t W_t k K_k W_k).mono fun e W' ⟨he, bel⟩ => ?_
  subst he
  exact ⟨_, rfl, post_of_trod (pa := (p0 ++ (p1 ++ []))) (pv := []) hW' (fun _ _ _ => (trodAll_cons_mk (shut_bool Try.underlying4 _) trodAll_mk0)) (trodAll_cons_mk (Below.trod laidOut (by kernel_rfl) (of_decide_eq_true (by kernel_rfl)) k0 bel lt0) (trodAll_cons_mk (Below.trod laidOut (by kernel_rfl) (of_decide_eq_true (by kernel_rfl)) k1 bel lt1) trodAll_mk0)) (fun _ => rfl) (by simp) bel⟩

theorem over : Rows.planStartsRow.holds Try.pinned (OpenSpec.ofChange Rows.planStartsSpec) :=
  OpenClaim.holds_of_wide 3 Try.f3 rfl rfl rfl rfl rfl rfl rfl ⟨rfl, rfl, rfl, rfl, rfl⟩ rfl rfl rfl rfl rfl (by kernel_rfl) Try.func3 (by kernel_rfl)
    (of_decide_eq_true (by kernel_rfl)) (by unfold Func.isWrapper; first | (rw [if_pos (by decide +kernel)]; kernel_rfl) | (rw [if_neg (by decide +kernel)]; exact ⟨rfl, rfl⟩))
    (fun os started H enc _ => lifted os started H enc)
theorem proved : Rows.PlanStartsSaid :=
  over
#print axioms proved
end Go.Proofs.Ytgjodcmpkppdlaa.planStarts
