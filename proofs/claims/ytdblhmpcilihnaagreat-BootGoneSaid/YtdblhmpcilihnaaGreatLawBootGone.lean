/- BootGone: for every input the law returns true and the input reads as it did. No condition beyond the given statement. -/
import Derived.Test.YtdblhmpcilihnaaGreatRows
import Derived.Test.YtdblhmpcilihnaaGreatData
import Derived.Test.YtdblhmpcilihnaaGreatRows
import Derived.WalkKit
import Derived.ProofKit
import Derived.Lib.Hide
import Derived.Deep.RegionHeld3
import Derived.Deep.DeepCutAuto
import Derived.Deep.LoopGhost
import Derived.BigQuiet
import Derived.WalkLawsBesides
import Derived.WalkSpells
import Derived.Test.YtdblhmpcilihnaaGreatWords3
import Derived.Test.YtdblhmpcilihnaaGreatG1
import Derived.OpenShut
import Derived.ShutString
import Derived.Carry
namespace Go.Proofs.YtdblhmpcilihnaaGreat.bootGone
open Go.ChangeShapes Go.WideShapes Go.ChangeAt Go.RowKit
open Go.ChangeMaps (open_string shut_string)
set_option linter.unusedVariables false
set_option linter.unusedSimpArgs false
theorem laidOut : laidOutB Tryz.prog = true := by kernel_rfl
theorem own : ownKnob Tryz.prog.godebug = none := by kernel_rfl
set_option maxRecDepth 100000 in
set_option maxHeartbeats 4000000 in
theorem walk (w : World) (cf : Config) (K_cf : Config.kn.K w cf (Config.cells cf).toList) (W_cf : Config.kn.Wf cf) (st : State) (Ast1 : Option Addr) (cst1 : Nat) (K_st : State.kn.K w st (State.cells st Ast1 cst1).toList) (W_st : State.kn.Wf st) (rl : List Rec) (Arl : Option Addr) (crl : Nat) (K_rl : (Kn.slice Rec.kn).K w rl [.slice Arl rl.length crl]) (W_rl : (Kn.slice Rec.kn).Wf rl) (x : Token) (K_x : Token.kn.K w x (Token.cells x).toList) (W_x : Token.kn.Wf x) :
    Calls Tryz.prog 8 #[Config.val cf, State.val st Ast1 cst1, .slice Arl rl.length crl, Token.val x] w fun e w' => e = .returned (.bool true) ∧ Below w.heap.size w w' := by
  exact law_of_pure (gone_p cf st rl x (wfS_of W_st) (kinds_of W_rl)) (ars_cons (Config.enc.ar K_cf) (ars_cons (State.enc.ar K_st) (ars_cons (Rec.enc.ars (by decide) K_rl) (ars_cons (Token.enc.ar K_x) ars_nil))))

set_option maxRecDepth 100000 in
set_option maxHeartbeats 1000000 in
theorem lifted (os : Os) (started : os.Started) (H : Type) (enc : TypeId × Value → H) :
    ReturnsInHanded {} Tryz.checked os 8 .any (Rows.bootGoneSpec.pre6 enc Tryz.prog Tryz.f8 Rows.bootGoneRow.domain false) (Rows.bootGoneSpec.post enc Tryz.prog Tryz.f8 false true false false) := by
  refine returnsInHanded_of_change (C := Tryz.checked) own started (by kernel_rfl) Tryz.func8
    (ChangeSpec.witness6 (enc := enc) (C := Tryz.checked) false ⟨#[], #[.agg #[.int .i64 0, .int .i64 0, .int .i64 0, .int .i64 0, .int .i64 0, .int .i64 0, .int .i64 0, .int .i64 0, .int .i64 0, .int .i64 0, .int .i64 0], .agg #[.int .i64 0, .int .i64 0, .int .i64 0, .int .i64 0, .slice none 0 0], .slice none 0 0, .agg #[.int .i64 0, .int .i64 0, .int .i64 0]], []⟩ 8 (by kernel_rfl) (by kernel_rfl) (by kernel_rfl) (by kernel_rfl)) ?_
  intro W base args ds gs before hval0 hW hcnd _
  have hval : ∀ (j : Nat) t v, Tryz.f8.params[j]? = some t → args[j]? = some v → Value.okWide Tryz.prog W .any base t v := hval0
  have hW' := hW
  obtain ⟨p, q, hA0, hV, rfl, hfz, hnd⟩ := hW
  have hA : DataW.TrodAll enc Tryz.prog W 0 (fun _ => true) true Tryz.f8.params.toList args.toList ds p := hA0
  rw [Tryz.params8] at hA hval
  obtain ⟨v0, vs0, d0, ds0, p0, q0, hargs, rfl, rfl, h0, r0⟩ := trodAll_cons hA
  obtain ⟨v1, vs1, d1, ds1, p1, q1, rfl, rfl, rfl, h1, r1⟩ := trodAll_cons r0
  obtain ⟨v2, vs2, d2, ds2, p2, q2, rfl, rfl, rfl, h2, r2⟩ := trodAll_cons r1
  obtain ⟨v3, vs3, d3, ds3, p3, q3, rfl, rfl, rfl, h3, r3⟩ := trodAll_cons r2
  obtain ⟨rfl, rfl, rfl⟩ := trodAll_nil r3
  obtain rfl : args = #[v0, v1, v2, v3] := by cases args; simp_all
  obtain ⟨rfl, rfl⟩ := trodVars_none hV
  have k0 := h0
  have lt0 : ∀ x ∈ p0, x.block < W.heap.size := by obtain ⟨m, hm⟩ := k0; exact DataW.trod_lt m _ _ _ hm
  obtain ⟨cs0, rfl, _⟩ := okWide_struct Tryz.underlying44 (hval 0 44 v0 rfl rfl)
  obtain ⟨fu0, hf0⟩ := h0
  obtain ⟨cf, K_cf, W_cf⟩ := (Config.opens).out enc W 0 _ _ fu0 _ _ hf0
  obtain e0 := Config.form K_cf
  obtain rfl : cs0 = Config.cells cf := by cases cs0; simp [Value.cells] at e0; simp [Config.cells, e0]
  have k1 := h1
  have lt1 : ∀ x ∈ p1, x.block < W.heap.size := by obtain ⟨m, hm⟩ := k1; exact DataW.trod_lt m _ _ _ hm
  obtain ⟨cs1, rfl, _⟩ := okWide_struct Tryz.underlying24 (hval 1 24 v1 rfl rfl)
  obtain ⟨fu1, hf1⟩ := h1
  obtain ⟨st, K_st, W_st⟩ := (State.opens).out enc W 0 _ _ fu1 _ _ hf1
  obtain ⟨Ast1, cst1, e1, _⟩ := State.form K_st
  obtain rfl : cs1 = State.cells st Ast1 cst1 := by cases cs1; simp [Value.cells] at e1; simp [State.cells, e1]
  have k2 := h2
  have lt2 : ∀ x ∈ p2, x.block < W.heap.size := by obtain ⟨m, hm⟩ := k2; exact DataW.trod_lt m _ _ _ hm
  obtain ⟨a2, len2, cap2, rfl⟩ := okWide_slice Tryz.underlying47 (hval 2 47 v2 rfl rfl)
  obtain ⟨fu2, hf2⟩ := h2
  obtain ⟨rl, K_rl, W_rl⟩ := (Kn.opens_slice Tryz.underlying47 (by kernel_rfl) Rec.opens).out enc W 0 _ _ fu2 _ _ hf2
  obtain ⟨Arl, crl, e2, l2, s2⟩ := K_rl
  simp only [Value.cells, List.cons.injEq, Value.slice.injEq, and_true] at e2
  obtain ⟨rfl, rfl, rfl⟩ := e2
  have K_rl : (Kn.slice Rec.kn).K W rl [.slice a2 rl.length cap2] := ⟨_, _, rfl, l2, s2⟩
  have k3 := h3
  have lt3 : ∀ x ∈ p3, x.block < W.heap.size := by obtain ⟨m, hm⟩ := k3; exact DataW.trod_lt m _ _ _ hm
  obtain ⟨cs3, rfl, _⟩ := okWide_struct Tryz.underlying68 (hval 3 68 v3 rfl rfl)
  obtain ⟨fu3, hf3⟩ := h3
  obtain ⟨x, K_x, W_x⟩ := (Token.opens).out enc W 0 _ _ fu3 _ _ hf3
  obtain e3 := Token.form K_x
  obtain rfl : cs3 = Token.cells x := by cases cs3; simp [Value.cells] at e3; simp [Token.cells, e3]
  clear hA0 hval0
  simp only [List.append_nil] at hW'
  refine (walk W cf K_cf W_cf st Ast1 cst1 K_st W_st rl a2 cap2 K_rl W_rl x K_x W_x).mono fun e W' ⟨he, bel⟩ => ?_
  subst he
  exact ⟨_, rfl, post_of_trod (pa := (p0 ++ (p1 ++ (p2 ++ (p3 ++ []))))) (pv := []) hW' (fun _ _ _ => (trodAll_cons_mk (shut_bool Tryz.underlying4 _) trodAll_mk0)) (trodAll_cons_mk (Below.trod laidOut (by kernel_rfl) (of_decide_eq_true (by kernel_rfl)) k0 bel lt0) (trodAll_cons_mk (Below.trod laidOut (by kernel_rfl) (of_decide_eq_true (by kernel_rfl)) k1 bel lt1) (trodAll_cons_mk (Below.trod laidOut (by kernel_rfl) (of_decide_eq_true (by kernel_rfl)) k2 bel lt2) (trodAll_cons_mk (Below.trod laidOut (by kernel_rfl) (of_decide_eq_true (by kernel_rfl)) k3 bel lt3) trodAll_mk0)))) (fun _ => rfl) (by simp) bel⟩
theorem factIn : (Rows.bootGoneRow.inPlace == Tryz.pinned.checked.prog.inPlace 8) = true := by kernel_rfl
theorem factUn : (Rows.bootGoneRow.unfollowed == Tryz.pinned.checked.prog.unfollowed 8) = true := by kernel_rfl
theorem factRe : (Rows.bootGoneRow.recurses == Tryz.pinned.checked.prog.recurses 8) = true := by kernel_rfl
theorem factNa : (Rows.bootGoneRow.named == Tryz.pinned.checked.prog.varsNamed 8) = true := by kernel_rfl
theorem factSt : Tryz.pinned.checked.prog.stopsHeard = true := by kernel_rfl
theorem factEn : Tryz.pinned.checked.prog.mayEnter = true := by kernel_rfl
theorem factLi : (Rows.bootGoneRow.lifted == Tryz.pinned.checked.prog.liftsFinal) = true := by kernel_rfl
theorem factMa : (Tryz.pinned.checked.prog.make == some Rows.bootGoneRow.make) = true := by kernel_rfl
theorem factLa : laidOutB Tryz.pinned.checked.prog = true := by kernel_rfl
theorem factRo : mapsRowed Tryz.pinned.checked.prog = true := by kernel_rfl
theorem closed : joinedFacts Tryz.pinned.checked.prog 8 Tryz.f8 Rows.bootGoneSpec Rows.bootGoneRow = true := by
  unfold joinedFacts
  rw [factIn, factUn, factRe, factNa, factSt, factEn, factLi, factMa, factLa, factRo]
  kernel_rfl

theorem over : Rows.bootGoneRow.holds Tryz.pinned (OpenSpec.ofChange Rows.bootGoneSpec) :=
  OpenClaim.holds_of_wide 8 Tryz.f8 rfl rfl rfl rfl rfl rfl rfl ⟨rfl, rfl, rfl, rfl, rfl⟩ rfl rfl rfl rfl rfl (by kernel_rfl) Tryz.func8 closed
    (of_decide_eq_true (by kernel_rfl)) (by unfold Func.isWrapper; first | (rw [if_pos (by decide +kernel)]; kernel_rfl) | (rw [if_neg (by decide +kernel)]; exact ⟨rfl, rfl⟩))
    (fun os started H enc _ => lifted os started H enc)
theorem proved : Rows.BootGoneSaid :=
  over
#print axioms proved
end Go.Proofs.YtdblhmpcilihnaaGreat.bootGone
