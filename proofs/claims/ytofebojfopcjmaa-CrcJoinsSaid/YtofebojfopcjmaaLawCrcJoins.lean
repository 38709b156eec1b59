/- CrcJoins: for every input the law returns true and the input reads as it did. No condition beyond the given statement. -/
import Derived.Test.YtofebojfopcjmaaRows
import Derived.WalkKit
import Derived.Deep.RegionHeld3
import Derived.ProofKit
import Derived.OpenShut
import Derived.ShutString
import Derived.Test.YtofebojfopcjmaaCrcRef
namespace Go.Proofs.Ytofebojfopcjmaa.crcJoins
open Go.ChangeShapes Go.WideShapes Go.ChangeAt Go.RowKit
open Go.ChangeMaps (open_string shut_string)
set_option linter.unusedVariables false      -- a walk need not use every 'w<i>' (that an integer argument fits its kind)

theorem own : ownKnob Try.prog.godebug = none := by kernel_rfl

/-! ### STEP 1: THE WALK: the Go text returns true. 'Below w.heap.size w w'': the world has at most new blocks (Derived/RowKit3.lean). Part the cases AHEAD of 'go_enter' where a test parts the walk; take each callee by a contract of your own. -/
set_option maxHeartbeats 1000000 in
theorem walk (a0 : ByteArray) (a1 : Int) (a2 : Int) (w0 : a0.size ≤ maxLen) (w1 : (Lit.int .u16 a1).wf = true) (w2 : (Lit.int .u16 a2).wf = true) (w : World) :
    Calls Try.prog 5 #[.string a0, .int .u16 a1, .int .u16 a2] w fun e w' => e = .returned (.bool true) ∧ Below w.heap.size w w' := by
  by_cases h : 2000 < a0.size
  · go_enter Try.func5, Try.ntmps5
    go_wp2_with fail
    all_goals
      refine (known_any _).mono ?_
      rintro e w' ⟨rfl, hb⟩
      go_wp2_with fail
      go_ret
      exact ⟨rfl, hb⟩
  · have b1 : 0 ≤ a1 := by have := wf_u16 w1; omega
    have b1' : a1 ≤ 65535 := by have := wf_u16 w1; omega
    have b2 : 0 ≤ a2 := by have := wf_u16 w2; omega
    have b2' : a2 ≤ 65535 := by have := wf_u16 w2; omega
    have c1 : 0 ≤ a1 % (↑a0.size + 1) := Int.emod_nonneg _ (by omega)
    have c1' : a1 % (↑a0.size + 1) ≤ a0.size := by have := Int.emod_lt_of_pos a1 (show 0 < (a0.size : Int) + 1 by omega); omega
    have c2 : 0 ≤ a2 % (↑a0.size - a1 % (↑a0.size + 1) + 1) := Int.emod_nonneg _ (by omega)
    have c2' : a2 % (↑a0.size - a1 % (↑a0.size + 1) + 1) ≤ ↑a0.size - a1 % (↑a0.size + 1) := by have := Int.emod_lt_of_pos a2 (show 0 < (↑a0.size - a1 % (↑a0.size + 1) + 1) by omega); omega
    go_enter Try.func5, Try.ntmps5
    go_wp2_with fail
    obtain ⟨A, hA⟩ : ∃ A : Nat, a1 % (↑a0.size + 1) = (A : Int) := ⟨_, (Int.toNat_of_nonneg c1).symm⟩
    rw [hA] at c1' c2 c2' ⊢
    obtain ⟨B, hB⟩ : ∃ B : Nat, (A : Int) + a2 % (↑a0.size - (A : Int) + 1) = (B : Int) := ⟨((A : Int) + a2 % (↑a0.size - (A : Int) + 1)).toNat, by omega⟩
    have d1 : (A : Int) ≤ B := by omega
    have d2 : (B : Int) ≤ a0.size := by omega
    rw [hB]
    clear hA hB c2 c2' c1 b1 b1' b2 b2'
    clear w1 w2
    have p0 : (0 : Int) ≤ (A : Int) := by omega
    have p1 : (0 : Int) ≤ (B : Int) := by omega
    have e1 := join_2 a0 A (by omega)
    have e2 := join_3 a0 A B (by omega) (by omega)
    go_region_held3 (fun _ => True) (trivial) (first
      | (go_at_call 10; (with_reducible refine (sum_any _ (le_max _ _ _ w0) _).mono ?_); rintro e w1 ⟨rfl, hb1⟩)
      | (go_at_call 10; (with_reducible refine (sum_any _ w0 _).mono ?_); rintro e w1 ⟨rfl, hb1⟩)
      | (go_at_call 12; (with_reducible refine (more_zero _ (le_max _ _ _ w0) _).mono ?_); rintro e w4 ⟨rfl, hb4⟩)
      | (go_at_call 12; (with_reducible refine (more_any _ _ (le_max _ _ _ w0) _).mono ?_); rintro e w2 ⟨rfl, hb2⟩)
      | (go_at_call 9; refine (known_any _).mono ?_; rintro e w3 ⟨rfl, hb3⟩))
    go_wp2_with fail
    go_ret
    exact ⟨rfl, by repeat (first | exact (Below.refl _ _).drew | exact Below.refl _ _ | assumption | refine Below.next ?_ (by assumption))⟩

/-! ### THE ROW's STEP: WRITTEN OUT: LEAVE IT -/
set_option maxRecDepth 100000 in
theorem lifted (os : Os) (started : os.Started) (H : Type) (enc : TypeId × Value → H) :
    ReturnsInHanded {} Try.checked os 5 .any (Rows.crcJoinsSpec.pre6 enc Try.prog Try.f5 Rows.crcJoinsRow.domain false) (Rows.crcJoinsSpec.post enc Try.prog Try.f5 false true false false) := by
  refine returnsInHanded_of_change (C := Try.checked) own started (by kernel_rfl) Try.func5
    (ChangeSpec.witness6 (enc := enc) (C := Try.checked) false ⟨#[], #[.string ByteArray.empty, .int .u16 0, .int .u16 0], []⟩ 8 (by kernel_rfl) (by kernel_rfl) (by kernel_rfl) (by kernel_rfl)) ?_
  intro W base args ds gs before hval0 hW hcnd _
  have hval : ∀ (j : Nat) t v, Try.f5.params[j]? = some t → args[j]? = some v → Value.okWide Try.prog W .any base t v := hval0
  have hW' := hW
  obtain ⟨p, q, hA0, hV, rfl, hfz, hnd⟩ := hW
  have hA : DataW.TrodAll enc Try.prog W 0 (fun _ => true) true Try.f5.params.toList args.toList ds p := hA0
  rw [Try.params5] at hA hval
  obtain ⟨v0, vs0, d0, ds0, p0, q0, hargs, rfl, rfl, h0, r0⟩ := trodAll_cons hA
  obtain ⟨v1, vs1, d1, ds1, p1, q1, rfl, rfl, rfl, h1, r1⟩ := trodAll_cons r0
  obtain ⟨v2, vs2, d2, ds2, p2, q2, rfl, rfl, rfl, h2, r2⟩ := trodAll_cons r1
  obtain ⟨rfl, rfl, rfl⟩ := trodAll_nil r2
  obtain rfl : args = #[v0, v1, v2] := by cases args; simp_all
  obtain ⟨rfl, rfl⟩ := trodVars_none hV
  obtain ⟨a0, rfl, rfl, rfl, w0⟩ := open_string Try.underlying9 (hval 0 9 v0 rfl rfl) h0
  obtain ⟨a1, rfl, rfl, rfl, w1⟩ := open_int Try.underlying27 (hval 1 27 v1 rfl rfl) h1
  obtain ⟨a2, rfl, rfl, rfl, w2⟩ := open_int Try.underlying27 (hval 2 27 v2 rfl rfl) h2
  clear hA0 hval0
  simp only [List.append_nil] at hW'
  refine (walk a0 a1 a2 w0 w1 w2 W).mono fun e W' ⟨he, hg⟩ => ?_
  subst he
  exact ⟨_, rfl, post_of_below (pa := []) (pv := []) hW' (fun _ _ _ => (trodAll_cons_mk (shut_bool Try.underlying4 _) trodAll_mk0)) (fun sp _ => (trodAll_cons_mk (shut_string Try.underlying9 w0) (trodAll_cons_mk (shut_int Try.underlying27 w1) (trodAll_cons_mk (shut_int Try.underlying27 w2) trodAll_mk0)))) (fun _ _ => rfl) rfl
    hg (ok_one (by kernel_rfl) rfl (okWide_bool_mk Try.underlying4 _))⟩

theorem over : Rows.crcJoinsRow.holds Try.pinned (OpenSpec.ofChange Rows.crcJoinsSpec) :=
  OpenClaim.holds_of_wide 5 Try.f5 rfl rfl rfl rfl rfl rfl rfl ⟨rfl, rfl, rfl, rfl, rfl⟩ rfl rfl rfl rfl rfl (by kernel_rfl) Try.func5 (by kernel_rfl)
    (of_decide_eq_true (by kernel_rfl)) (by unfold Func.isWrapper; first | (rw [if_pos (by decide +kernel)]; kernel_rfl) | (rw [if_neg (by decide +kernel)]; exact ⟨rfl, rfl⟩))
    (fun os started H enc _ => lifted os started H enc)

/-- ████ THE STATEMENT ████ -/
theorem proved : Rows.CrcJoinsSaid :=
  over
#print axioms proved
end Go.Proofs.Ytofebojfopcjmaa.crcJoins
