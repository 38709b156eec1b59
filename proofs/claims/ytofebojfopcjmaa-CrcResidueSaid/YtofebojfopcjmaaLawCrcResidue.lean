/- CrcResidue: for every input the law returns true and the input reads as it did. No condition beyond the given statement. -/
import Derived.Test.YtofebojfopcjmaaRows
import Derived.WalkKit
import Derived.Deep.RegionHeld3
import Derived.WalkLawsBesides
import Derived.WalkSpells
import Derived.ProofKit
import Derived.OpenShut
import Derived.ShutString
import Derived.Test.YtofebojfopcjmaaCrcTail
namespace Go.Proofs.Ytofebojfopcjmaa.crcResidue
open Go.ChangeShapes Go.WideShapes Go.ChangeAt Go.RowKit
open Go.ChangeMaps (open_string shut_string)
set_option linter.unusedVariables false      -- a walk need not use every 'w<i>' (that an integer argument fits its kind)

theorem own : ownKnob Try.prog.godebug = none := by kernel_rfl

/-! ### STEP 1: THE WALK: the Go text returns true. 'Below w.heap.size w w'': the world has at most new blocks (Derived/RowKit3.lean). Part the cases AHEAD of 'go_enter' where a test parts the walk; take each callee by a contract of your own. -/
set_option maxHeartbeats 1000000 in
theorem walk (a0 : ByteArray) (a1 : Int) (w0 : a0.size ≤ maxLen) (w1 : (Lit.int .u32 a1).wf = true) (w : World) :
    Calls Try.prog 8 #[.string a0, .int .u32 a1] w fun e w' => e = .returned (.bool true) ∧ Below w.heap.size w w' := by
  obtain ⟨o, rfl⟩ := u32_bv w1
  by_cases h : 1000 < a0.size
  · go_enter Try.func8, Try.ntmps8
    go_wp2_with fail
    refine (known_any _).mono ?_
    rintro e w' ⟨rfl, hb⟩
    go_wp2_with fail
    go_ret
    exact ⟨rfl, hb⟩
  · have hy := ends_yes a0
    have hs : ∀ c : BitVec 32, (a0 ++ tailS c).size ≤ maxLen := fun c => by
      rw [ByteArray.size_append, show (tailS c).size = 4 from rfl]; simp only [maxLen]; omega
    have HS := Lib.hid hs
    clear hs
    have t1 : (tailS (Crc.moreS 0#32 a0)).size ≤ 4 := Nat.le_refl 4
    have t2 : (tailS (Crc.moreS 0#32 a0 ^^^ o)).size ≤ 4 := Nat.le_refl 4
    cases ho : ((o.toNat : Int) != 0)
    · go_enter Try.func8, Try.ntmps8
      go_wp2_with (first
        | (go_at_call 10; (with_reducible refine (sum_any _ w0 _).mono ?_); rintro e w1 ⟨rfl, hb1⟩)
        | (go_at_call 10; (with_reducible refine (sum_any _ (HS.out _) _).mono ?_); rintro e w1 ⟨rfl, hb1⟩)
        | (go_at_call 14; (with_reducible refine (tail_xor _ _ _).mono ?_); rintro e w2 ⟨rfl, hb2⟩)
        | (go_at_call 14; (with_reducible refine (tail_any _ _).mono ?_); rintro e w2 ⟨rfl, hb2⟩)
        | (go_at_call 9; refine (known_any _).mono ?_; rintro e w3 ⟨rfl, hb3⟩))
      go_ret
      exact ⟨rfl, by repeat (first | exact Below.refl _ _ | assumption | refine Below.next ?_ (by assumption))⟩
    · have hn := ends_no a0 o ho
      go_enter Try.func8, Try.ntmps8
      go_wp2_with (first
        | (go_at_call 10; (with_reducible refine (sum_any _ w0 _).mono ?_); rintro e w1 ⟨rfl, hb1⟩)
        | (go_at_call 10; (with_reducible refine (sum_any _ (HS.out _) _).mono ?_); rintro e w1 ⟨rfl, hb1⟩)
        | (go_at_call 14; (with_reducible refine (tail_xor _ _ _).mono ?_); rintro e w2 ⟨rfl, hb2⟩)
        | (go_at_call 14; (with_reducible refine (tail_any _ _).mono ?_); rintro e w2 ⟨rfl, hb2⟩)
        | (go_at_call 9; refine (known_any _).mono ?_; rintro e w3 ⟨rfl, hb3⟩))
      go_ret
      exact ⟨rfl, by repeat (first | exact Below.refl _ _ | assumption | refine Below.next ?_ (by assumption))⟩

/-! ### THE ROW's STEP: WRITTEN OUT: LEAVE IT -/
set_option maxRecDepth 100000 in
theorem lifted (os : Os) (started : os.Started) (H : Type) (enc : TypeId × Value → H) :
    ReturnsInHanded {} Try.checked os 8 .any (Rows.crcResidueSpec.pre6 enc Try.prog Try.f8 Rows.crcResidueRow.domain false) (Rows.crcResidueSpec.post enc Try.prog Try.f8 false true false false) := by
  refine returnsInHanded_of_change (C := Try.checked) own started (by kernel_rfl) Try.func8
    (ChangeSpec.witness6 (enc := enc) (C := Try.checked) false ⟨#[], #[.string ByteArray.empty, .int .u32 0], []⟩ 8 (by kernel_rfl) (by kernel_rfl) (by kernel_rfl) (by kernel_rfl)) ?_
  intro W base args ds gs before hval0 hW hcnd _
  have hval : ∀ (j : Nat) t v, Try.f8.params[j]? = some t → args[j]? = some v → Value.okWide Try.prog W .any base t v := hval0
  have hW' := hW
  obtain ⟨p, q, hA0, hV, rfl, hfz, hnd⟩ := hW
  have hA : DataW.TrodAll enc Try.prog W 0 (fun _ => true) true Try.f8.params.toList args.toList ds p := hA0
  rw [Try.params8] at hA hval
  obtain ⟨v0, vs0, d0, ds0, p0, q0, hargs, rfl, rfl, h0, r0⟩ := trodAll_cons hA
  obtain ⟨v1, vs1, d1, ds1, p1, q1, rfl, rfl, rfl, h1, r1⟩ := trodAll_cons r0
  obtain ⟨rfl, rfl, rfl⟩ := trodAll_nil r1
  obtain rfl : args = #[v0, v1] := by cases args; simp_all
  obtain ⟨rfl, rfl⟩ := trodVars_none hV
  obtain ⟨a0, rfl, rfl, rfl, w0⟩ := open_string Try.underlying9 (hval 0 9 v0 rfl rfl) h0
  obtain ⟨a1, rfl, rfl, rfl, w1⟩ := open_int Try.underlying22 (hval 1 22 v1 rfl rfl) h1
  clear hA0 hval0
  simp only [List.append_nil] at hW'
  refine (walk a0 a1 w0 w1 W).mono fun e W' ⟨he, hg⟩ => ?_
  subst he
  exact ⟨_, rfl, post_of_below (pa := []) (pv := []) hW' (fun _ _ _ => (trodAll_cons_mk (shut_bool Try.underlying4 _) trodAll_mk0)) (fun sp _ => (trodAll_cons_mk (shut_string Try.underlying9 w0) (trodAll_cons_mk (shut_int Try.underlying22 w1) trodAll_mk0))) (fun _ _ => rfl) rfl
    hg (ok_one (by kernel_rfl) rfl (okWide_bool_mk Try.underlying4 _))⟩

theorem over : Rows.crcResidueRow.holds Try.pinned (OpenSpec.ofChange Rows.crcResidueSpec) :=
  OpenClaim.holds_of_wide 8 Try.f8 rfl rfl rfl rfl rfl rfl rfl ⟨rfl, rfl, rfl, rfl, rfl⟩ rfl rfl rfl rfl rfl (by kernel_rfl) Try.func8 (by kernel_rfl)
    (of_decide_eq_true (by kernel_rfl)) (by unfold Func.isWrapper; first | (rw [if_pos (by decide +kernel)]; kernel_rfl) | (rw [if_neg (by decide +kernel)]; exact ⟨rfl, rfl⟩))
    (fun os started H enc _ => lifted os started H enc)

/-- ████ THE STATEMENT ████ -/
theorem proved : Rows.CrcResidueSaid :=
  over
#print axioms proved
end Go.Proofs.Ytofebojfopcjmaa.crcResidue
