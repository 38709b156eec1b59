/- That layer 20 is awake. -/
import Derived.Test.YtdblhmpcilihnaaGreatL2
import Derived.Test.YtdblhmpcilihnaaGreatK6
namespace Go.Proofs.YtdblhmpcilihnaaGreat
open Go.RowKit E
set_option maxRecDepth 100000
set_option linter.unusedVariables false
set_option linter.unusedSimpArgs false
theorem cfg1 : cfgF 1 = exC := rfl
theorem exC_ok : exC.ok := cfg_ok 1
theorem good_s1 : Good exC exS1 := by
  have := apply_keeps (c := exC) (s := newS) (r := ⟨1, 1, exSeven, 0, 0, 0, 0, 0, 0, 0⟩) (good_new exC_ok).2 (by rw [show newS = ⟨0, 1, 1, -1, []⟩ from rfl, ex_placed])
  rwa [show newS = ⟨0, 1, 1, -1, []⟩ from rfl, ex_placed] at this
theorem placed_p : Pure Tryz.prog 13 [] (resS (0, exS1)) := by
  have hA := apply_p (cfgF 1) newS ⟨1, 1, exSeven, 0, 0, 0, 0, 0, 0, 0⟩ (good_few (good_new exC_ok).1) (good_new exC_ok).2 (by decide)
  rw [cfg1, show newS = ⟨0, 1, 1, -1, []⟩ from rfl, ex_placed] at hA
  refine Pure.ev Tryz.f13 mx Tryz.func13 (by kernel_rfl) rfl rfl rfl ?_ <;> (refine goS ?_ <;> repeat (intro _ <;> refine goS ?_))
  (first | refine Pure.call (two_p) ?_ | refine HCall.pure (two_p) ?_) <;> (refine goS ?_ <;> repeat (intro _ <;> refine goS ?_))
  (first | refine Pure.call (new_p) ?_ | refine HCall.pure (new_p) ?_) <;> (refine goS ?_ <;> repeat (intro _ <;> refine goS ?_))
  (first | refine Pure.call (seven_p) ?_ | refine HCall.pure (seven_p) ?_) <;> (refine goS ?_ <;> repeat (intro _ <;> refine goS ?_))
  (first | refine Pure.call (hA) ?_ | refine HCall.pure (hA) ?_) <;> (refine goS ?_ <;> repeat (intro _ <;> refine goS ?_))
  exact ret_now _ rfl
theorem after20_p (s : State) (r : Rec) (z : Int × State) (hf : s.few) (hw : s.wfS) (h0 : 0 ≤ r.kind) (hz : applyF exC s r = z) : Pure Tryz.prog 16 [s.av, r.av] (resS z) := by
  have hA := apply_p (cfgF 1) s r hf hw h0
  rw [cfg1, hz] at hA
  refine Pure.ev Tryz.f16 mx Tryz.func16 (by kernel_rfl) rfl rfl rfl ?_ <;> (refine goS ?_ <;> repeat (intro _ <;> refine goS ?_))
  (first | refine Pure.call (two_p) ?_ | refine HCall.pure (two_p) ?_) <;> (refine goS ?_ <;> repeat (intro _ <;> refine goS ?_))
  (first | refine Pure.call (hA) ?_ | refine HCall.pure (hA) ?_) <;> (refine goS ?_ <;> repeat (intro _ <;> refine goS ?_))
  exact ret_now _ rfl
def exS2 : State := ⟨1, 2, 2, -1, [⟨exSeven, 1, 0, false, [⟨1, 1, 0, 0, 0, 0, 0, [3]⟩]⟩]⟩
def exS3 : State := ⟨2, 1, 2, -1, [⟨exSeven, 1, 0, true, [⟨6, 0, 0, 0, 0, 0, 0, []⟩]⟩]⟩
def exS4 : State := ⟨2, 1, 2, -1, []⟩
theorem ex1 : applyF exC exS1 ⟨1, 0, exSeven, 0, 0, 0, 0, 0, 0, 0⟩ = (13, zS) := by rw [applyC_eq]; kernel_rfl
theorem ex2 : applyF exC exS1 ⟨1, 1, exSeven, 0, 0, 0, 0, 0, 0, 0⟩ = (8, zS) := by rw [applyC_eq]; kernel_rfl
theorem ex3 : applyF exC exS1 ⟨1, 1, ⟨8, ⟨4, 4, 4⟩, [80], [⟨⟨false, 2, 20, 2, 8⟩, 0⟩]⟩, 0, 0, 0, 0, 0, 0, 0⟩ = (7, zS) := by rw [applyC_eq]; kernel_rfl
theorem ex4 : applyF exC exS1 ⟨4, 0, zSp, 7, 0, 3, 0, 0, 0, 0⟩ = (0, exS2) := by rw [applyC_eq]; kernel_rfl
theorem ex5 : applyF exC exS1 ⟨2, 2, zSp, 7, 0, 5, 3, 0, 0, 0⟩ = (0, exS3) := by rw [applyC_eq]; kernel_rfl
theorem ex6 : applyF exC exS3 ⟨3, 2, zSp, 7, 0, 0, 0, 0, 0, 0⟩ = (0, exS4) := by rw [applyC_eq]; kernel_rfl
theorem ex7 : applyF exC exS1 ⟨3, 1, zSp, 7, 0, 0, 0, 0, 0, 0⟩ = (7, zS) := by rw [applyC_eq]; kernel_rfl
theorem good_s3 : Good exC exS3 := by
  have := apply_keeps (c := exC) (s := exS1) (r := ⟨2, 2, zSp, 7, 0, 5, 3, 0, 0, 0⟩) good_s1.2 (by rw [ex5])
  rwa [ex5] at this
theorem fzRows1 {R : List AV → List AV → Prop} {r r' : List AV} (h : R r r') : FzRows R [r] [r'] := ⟨rfl, fun i a b ha hb => by
  cases i with
  | zero => simp at ha hb; subst ha hb; exact h
  | succ i => simp at ha⟩
set_option maxHeartbeats 4000000 in
theorem awake20_p : Pure Tryz.prog 19 [] (B true) := by
  have h1 := after20_p exS1 _ _ (good_few good_s1.1) good_s1.2 (by decide) ex1
  have h2 := after20_p exS1 _ _ (good_few good_s1.1) good_s1.2 (by decide) ex2
  have h3 := after20_p exS1 _ _ (good_few good_s1.1) good_s1.2 (by decide) ex3
  have h4 := after20_p exS1 _ _ (good_few good_s1.1) good_s1.2 (by decide) ex4
  have h5 := after20_p exS1 _ _ (good_few good_s1.1) good_s1.2 (by decide) ex5
  have h6 := after20_p exS3 _ _ (good_few good_s3.1) good_s3.2 (by decide) ex6
  have h7 := after20_p exS1 _ _ (good_few good_s1.1) good_s1.2 (by decide) ex7
  have hO := stateOver_p ⟨exSeven, 1, 0, true, [⟨6, 0, 0, 0, 0, 0, 0, []⟩]⟩
  rw [overC_eq, show overC ⟨exSeven, 1, 0, true, [⟨6, 0, 0, 0, 0, 0, 0, []⟩]⟩ = true from rfl] at hO
  refine Pure.ev Tryz.f19 mx Tryz.func19 (by kernel_rfl) rfl rfl rfl ?_ <;> (refine goS ?_ <;> repeat (intro _ <;> refine goS ?_))
  (first | refine Pure.call (placed_p) ?_ | refine HCall.pure (placed_p) ?_) <;> (refine goS ?_ <;> repeat (intro _ <;> refine goS ?_))
  (first | refine Pure.call (seven_p) ?_ | refine HCall.pure (seven_p) ?_) <;> (refine goS1 ?_ <;> repeat (intro _ <;> refine goS1 ?_))
  refine SeqW.wk (Wk.trans (Wk.cut (fr1 := [(1, .hptr 0 5 0 0), (2, I 0), (3, .hptr 3 5 0 0)]) (H1 := ⟨4, [(3, some ⟨5, [[I 1, I 1, I 2, I (-1), .hsl 2 10 0 1 1 true]], none⟩), (2, some ⟨10, [(Spec.fv exSeven).map FV.up ++ [I 1, I 0, B false, .hsl 1 8 0 1 1 true]], none⟩), (1, some ⟨8, [[U8 0, I 0, I 0, I 0, I 0, I 0, I 0, nilV0]], none⟩), (0, some ⟨5, [(State.fv exS1).map FV.up], none⟩)]⟩) rfl ⟨⟨rfl, rfl⟩, ⟨rfl, rfl⟩, ⟨rfl, rfl⟩, trivial⟩ ⟨⟨rfl, rfl, row1 rfl, nofun⟩, ⟨rfl, rfl, row1 rfl, nofun⟩, ⟨rfl, rfl, row1 rfl, nofun⟩, ⟨rfl, rfl, row1 rfl, nofun⟩, trivial⟩)
    (Wk.frz (fr1 := [(1, .hptr 0 5 0 0), (2, I 0), (3, .hptr 3 5 0 0)]) (es1 := [(3, some ⟨5, [(State.fv exS1).map FV.up], none⟩), (0, some ⟨5, [(State.fv exS1).map FV.up], none⟩)]) (fun id => id == 1 || id == 2) ?_ ?_)) ?_
  · exact ⟨rfl, rfl, rfl, trivial⟩
  · refine ⟨⟨rfl, _, rfl, .inr ⟨rfl, rfl, rfl, fzRows1 ⟨rfl, rfl, rfl, rfl, ⟨⟨⟨rfl, rfl⟩, rfl⟩, _, rfl, rfl, fun i hi => ?_⟩, trivial⟩⟩⟩, ⟨rfl, _, rfl, .inl rfl⟩, trivial⟩
    obtain rfl : i = 0 := by omega
    refine ⟨_, rfl, ⟨rfl, rfl, rfl, rfl, rfl, rfl, rfl, rfl, rfl, ⟨⟨⟨rfl, rfl⟩, rfl⟩, _, rfl, rfl, fun i hi => ?_⟩, trivial⟩⟩
    obtain rfl : i = 0 := by omega
    exact ⟨_, rfl, ⟨rfl, rfl, rfl, rfl, rfl, rfl, rfl, rfl, trivial⟩⟩
  (refine goS ?_ <;> repeat (intro _ <;> refine goS ?_))
  (first | refine Pure.call (equalState_p exS1) ?_ | refine HCall.pure (equalState_p exS1) ?_) <;> (refine goS ?_ <;> repeat (intro _ <;> refine goS ?_))
  (first | refine Pure.call (new_p) ?_ | refine HCall.pure (new_p) ?_) <;> (refine goS ?_ <;> repeat (intro _ <;> refine goS ?_))
  refine Pure.call (pure_nz (equalState_p newS) rfl ?_) ?_
  · repeat' (first | exact rfl | exact trivial | (refine And.intro ?_ ?_) | (conv => whnf))
  (refine goS ?_ <;> repeat (intro _ <;> refine goS ?_))
  (first | refine Pure.call (seven_p) ?_ | refine HCall.pure (seven_p) ?_) <;> (refine goS ?_ <;> repeat (intro _ <;> refine goS ?_))
  (first | refine Pure.call (seven_p) ?_ | refine HCall.pure (seven_p) ?_) <;> (refine goS ?_ <;> repeat (intro _ <;> refine goS ?_))
  (first | refine Pure.call (pure_nz (h1) rfl ?_) ?_ | refine HCall.pure (pure_nz (h1) rfl ?_) ?_)
  · repeat' (first | exact rfl | exact trivial | (refine And.intro ?_ ?_) | (conv => whnf))
  (refine goS ?_ <;> repeat (intro _ <;> refine goS ?_))
  (first | refine Pure.call (seven_p) ?_ | refine HCall.pure (seven_p) ?_) <;> (refine goS ?_ <;> repeat (intro _ <;> refine goS ?_))
  (first | refine Pure.call (pure_nz (h2) rfl ?_) ?_ | refine HCall.pure (pure_nz (h2) rfl ?_) ?_)
  · repeat' (first | exact rfl | exact trivial | (refine And.intro ?_ ?_) | (conv => whnf))
  (refine goS ?_ <;> repeat (intro _ <;> refine goS ?_))
  (first | refine Pure.call (pure_nz (h3) rfl ?_) ?_ | refine HCall.pure (pure_nz (h3) rfl ?_) ?_)
  · repeat' (first | exact rfl | exact trivial | (refine And.intro ?_ ?_) | (conv => whnf))
  (refine goS ?_ <;> repeat (intro _ <;> refine goS ?_))
  (first | refine Pure.call (pure_nz (h4) rfl ?_) ?_ | refine HCall.pure (pure_nz (h4) rfl ?_) ?_)
  · repeat' (first | exact rfl | exact trivial | (refine And.intro ?_ ?_) | (conv => whnf))
  (refine goS ?_ <;> repeat (intro _ <;> refine goS ?_))
  repeat' ((refine bnS (fun hr h => ?_) (fun hr h => ?_) <;> first | (exfalso; omega) | ((refine goS ?_ <;> repeat (intro _ <;> refine goS ?_)))))
  (first | refine ACalls.deep (equalInts_p [3]) rfl (.cons (.inl ⟨rfl, rfl⟩) (.cons (dth_rows (fv := fvI) (L := [3]) rfl rfl) .nil)) ?_ | refine HCall.deep (equalInts_p [3]) rfl (.cons (.inl ⟨rfl, rfl⟩) (.cons (dth_rows (fv := fvI) (L := [3]) rfl rfl) .nil)) ?_) <;> (refine goS ?_ <;> repeat (intro _ <;> refine goS ?_))
  (first | refine Pure.call (pure_nz (h5) rfl ?_) ?_ | refine HCall.pure (pure_nz (h5) rfl ?_) ?_)
  · repeat' (first | exact rfl | exact trivial | (refine And.intro ?_ ?_) | (conv => whnf))
  (refine goS ?_ <;> repeat (intro _ <;> refine goS ?_))
  (first | refine Pure.call (pure_nz (h6) rfl ?_) ?_ | refine HCall.pure (pure_nz (h6) rfl ?_) ?_)
  · repeat' (first | exact rfl | exact trivial | (refine And.intro ?_ ?_) | (conv => whnf))
  (refine goS ?_ <;> repeat (intro _ <;> refine goS ?_))
  (first | refine Pure.call (pure_nz (h7) rfl ?_) ?_ | refine HCall.pure (pure_nz (h7) rfl ?_) ?_)
  · repeat' (first | exact rfl | exact trivial | (refine And.intro ?_ ?_) | (conv => whnf))
  (refine goS ?_ <;> repeat (intro _ <;> refine goS ?_))
  (first | refine Pure.call (hO) ?_ | refine HCall.pure (hO) ?_) <;> (refine goS ?_ <;> repeat (intro _ <;> refine goS ?_))
  exact ret_now _ rfl
end Go.Proofs.YtdblhmpcilihnaaGreat
