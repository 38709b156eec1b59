/- StateFolds: for every input the law returns true and the input reads as it did. No condition beyond the given statement. -/
import Derived.Test.YtdblhmpcilihnaaGreatRows
import Derived.Test.YtdblhmpcilihnaaGreatData
import Derived.Test.YtdblhmpcilihnaaGreatRows
import Derived.WalkKit
import Derived.ProofKit
import Derived.Lib.Hide
import Derived.Deep.RegionHeld3
import Derived.Deep.DeepCutAuto
import Derived.Deep.LoopGhost
import Derived.BigQuiet
import Derived.WalkLawsBesides
import Derived.WalkSpells
import Derived.Test.YtdblhmpcilihnaaGreatWords3
import Derived.Test.YtdblhmpcilihnaaGreatH3
import Derived.OpenShut
import Derived.ShutString
import Derived.Carry
namespace Go.Proofs.YtdblhmpcilihnaaGreat.stateFolds
open Go.ChangeShapes Go.WideShapes Go.ChangeAt Go.RowKit
open Go.ChangeMaps (open_string shut_string)
set_option linter.unusedVariables false
set_option linter.unusedSimpArgs false
theorem laidOut : laidOutB Tryz.prog = true := by kernel_rfl
theorem own : ownKnob Tryz.prog.godebug = none := by kernel_rfl
set_option maxRecDepth 100000 in
set_option maxHeartbeats 4000000 in
theorem walk (w : World) (n : Int) (w_n : (Lit.int .i64 n).wf = true) (rl : List Rec) (Arl : Option Addr) (crl : Nat) (K_rl : (Kn.slice Rec.kn).K w rl [.slice Arl rl.length crl]) (W_rl : (Kn.slice Rec.kn).Wf rl) (at_ : Int) (w_at_ : (Lit.int .i64 at_).wf = true) :
    Calls Tryz.prog 10 #[.int .i64 n, .slice Arl rl.length crl, .int .i64 at_] w fun e w' => e = .returned (.bool true) ∧ Below w.heap.size w w' := by
  exact law_of_pure (folds_p n rl at_ (kinds_u8 W_rl)) (ars_cons (.val _) (ars_cons (Rec.enc.ars (by decide) K_rl) (ars_cons (.val _) ars_nil)))

set_option maxRecDepth 100000 in
set_option maxHeartbeats 1000000 in
theorem lifted (os : Os) (started : os.Started) (H : Type) (enc : TypeId × Value → H) :
    ReturnsInHanded {} Tryz.checked os 10 .any (Rows.stateFoldsSpec.pre6 enc Tryz.prog Tryz.f10 Rows.stateFoldsRow.domain false) (Rows.stateFoldsSpec.post enc Tryz.prog Tryz.f10 false true false false) := by
  refine returnsInHanded_of_change (C := Tryz.checked) own started (by kernel_rfl) Tryz.func10
    (ChangeSpec.witness6 (enc := enc) (C := Tryz.checked) false ⟨#[], #[.int .i64 0, .slice none 0 0, .int .i64 0], []⟩ 8 (by kernel_rfl) (by kernel_rfl) (by kernel_rfl) (by kernel_rfl)) ?_
  intro W base args ds gs before hval0 hW hcnd _
  have hval : ∀ (j : Nat) t v, Tryz.f10.params[j]? = some t → args[j]? = some v → Value.okWide Tryz.prog W .any base t v := hval0
  have hW' := hW
  obtain ⟨p, q, hA0, hV, rfl, hfz, hnd⟩ := hW
  have hA : DataW.TrodAll enc Tryz.prog W 0 (fun _ => true) true Tryz.f10.params.toList args.toList ds p := hA0
  rw [Tryz.params10] at hA hval
  obtain ⟨v0, vs0, d0, ds0, p0, q0, hargs, rfl, rfl, h0, r0⟩ := trodAll_cons hA
  obtain ⟨v1, vs1, d1, ds1, p1, q1, rfl, rfl, rfl, h1, r1⟩ := trodAll_cons r0
  obtain ⟨v2, vs2, d2, ds2, p2, q2, rfl, rfl, rfl, h2, r2⟩ := trodAll_cons r1
  obtain ⟨rfl, rfl, rfl⟩ := trodAll_nil r2
  obtain rfl : args = #[v0, v1, v2] := by cases args; simp_all
  obtain ⟨rfl, rfl⟩ := trodVars_none hV
  obtain ⟨n, rfl, rfl, rfl, w_n⟩ := open_int Tryz.underlying3 (hval 0 3 v0 rfl rfl) h0
  have k1 := h1
  have lt1 : ∀ x ∈ p1, x.block < W.heap.size := by obtain ⟨m, hm⟩ := k1; exact DataW.trod_lt m _ _ _ hm
  obtain ⟨a1, len1, cap1, rfl⟩ := okWide_slice Tryz.underlying47 (hval 1 47 v1 rfl rfl)
  obtain ⟨fu1, hf1⟩ := h1
  obtain ⟨rl, K_rl, W_rl⟩ := (Kn.opens_slice Tryz.underlying47 (by kernel_rfl) Rec.opens).out enc W 0 _ _ fu1 _ _ hf1
  obtain ⟨Arl, crl, e1, l1, s1⟩ := K_rl
  simp only [Value.cells, List.cons.injEq, Value.slice.injEq, and_true] at e1
  obtain ⟨rfl, rfl, rfl⟩ := e1
  have K_rl : (Kn.slice Rec.kn).K W rl [.slice a1 rl.length cap1] := ⟨_, _, rfl, l1, s1⟩
  obtain ⟨at_, rfl, rfl, rfl, w_at_⟩ := open_int Tryz.underlying3 (hval 2 3 v2 rfl rfl) h2
  clear hA0 hval0
  simp only [List.append_nil] at hW'
  refine (walk W n w_n rl a1 cap1 K_rl W_rl at_ w_at_).mono fun e W' ⟨he, bel⟩ => ?_
  subst he
  exact ⟨_, rfl, post_of_trod (pa := ([] ++ (p1 ++ ([] ++ [])))) (pv := []) hW' (fun _ _ _ => (trodAll_cons_mk (shut_bool Tryz.underlying4 _) trodAll_mk0)) (trodAll_cons_mk (shut_int Tryz.underlying3 w_n) (trodAll_cons_mk (Below.trod laidOut (by kernel_rfl) (of_decide_eq_true (by kernel_rfl)) k1 bel lt1) (trodAll_cons_mk (shut_int Tryz.underlying3 w_at_) trodAll_mk0))) (fun _ => rfl) (by simp) bel⟩
theorem factIn : (Rows.stateFoldsRow.inPlace == Tryz.pinned.checked.prog.inPlace 10) = true := by kernel_rfl
theorem factUn : (Rows.stateFoldsRow.unfollowed == Tryz.pinned.checked.prog.unfollowed 10) = true := by kernel_rfl
theorem factRe : (Rows.stateFoldsRow.recurses == Tryz.pinned.checked.prog.recurses 10) = true := by kernel_rfl
theorem factNa : (Rows.stateFoldsRow.named == Tryz.pinned.checked.prog.varsNamed 10) = true := by kernel_rfl
theorem factSt : Tryz.pinned.checked.prog.stopsHeard = true := by kernel_rfl
theorem factEn : Tryz.pinned.checked.prog.mayEnter = true := by kernel_rfl
theorem factLi : (Rows.stateFoldsRow.lifted == Tryz.pinned.checked.prog.liftsFinal) = true := by kernel_rfl
theorem factMa : (Tryz.pinned.checked.prog.make == some Rows.stateFoldsRow.make) = true := by kernel_rfl
theorem factLa : laidOutB Tryz.pinned.checked.prog = true := by kernel_rfl
theorem factRo : mapsRowed Tryz.pinned.checked.prog = true := by kernel_rfl
theorem closed : joinedFacts Tryz.pinned.checked.prog 10 Tryz.f10 Rows.stateFoldsSpec Rows.stateFoldsRow = true := by
  unfold joinedFacts
  rw [factIn, factUn, factRe, factNa, factSt, factEn, factLi, factMa, factLa, factRo]
  kernel_rfl

theorem over : Rows.stateFoldsRow.holds Tryz.pinned (OpenSpec.ofChange Rows.stateFoldsSpec) :=
  OpenClaim.holds_of_wide 10 Tryz.f10 rfl rfl rfl rfl rfl rfl rfl ⟨rfl, rfl, rfl, rfl, rfl⟩ rfl rfl rfl rfl rfl (by kernel_rfl) Tryz.func10 closed
    (of_decide_eq_true (by kernel_rfl)) (by unfold Func.isWrapper; first | (rw [if_pos (by decide +kernel)]; kernel_rfl) | (rw [if_neg (by decide +kernel)]; exact ⟨rfl, rfl⟩))
    (fun os started H enc _ => lifted os started H enc)
theorem proved : Rows.StateFoldsSaid :=
  over
#print axioms proved
end Go.Proofs.YtdblhmpcilihnaaGreat.stateFolds
