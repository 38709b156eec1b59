/- BootGone, walked. -/
import Derived.Test.YtdblhmpcilihnaaGreatKK
import Derived.Test.YtdblhmpcilihnaaGreatBoot1
import Derived.Test.YtdblhmpcilihnaaGreatG0
namespace Go.Proofs.YtdblhmpcilihnaaGreat
open Go.RowKit E
set_option maxRecDepth 100000
set_option linter.unusedVariables false
set_option linter.unusedSimpArgs false
theorem curB_iff {s : State} {x : Token} : curB s x = true ↔ curOk s x := by unfold curB; simp
set_option maxHeartbeats 4000000 in
theorem gone_p (c : Config) (s : State) (l : List Rec) (x : Token) (hw : s.wfS) (hkd : ∀ i, 0 ≤ (l.getD i default).kind) : Pure Tryz.prog 8 [c.av, s.av, slRec l, x.av] (B true) := by
  have hAw := awake30_p
  have hF := few_p s
  cases hf : fewB s <;> rw [hf] at hF
  · refine Pure.ev Tryz.f8 mx Tryz.func8 (by kernel_rfl) rfl rfl rfl ?_ <;> (refine goS ?_ <;> repeat (intro _ <;> refine goS ?_))
    (first | refine Pure.call (hF) ?_ | refine HCall.pure (hF) ?_) <;> (refine goS ?_ <;> repeat (intro _ <;> refine goS ?_))
    exact ret_now _ rfl
  have hfw := fewB_few hf
  have hC := refCheck_p c s hfw hw
  by_cases hE : stE c s = 0
  case neg =>
    refine Pure.ev Tryz.f8 mx Tryz.func8 (by kernel_rfl) rfl rfl rfl ?_ <;> (refine goS ?_ <;> repeat (intro _ <;> refine goS ?_))
    (first | refine Pure.call (hF) ?_ | refine HCall.pure (hF) ?_) <;> (refine goS ?_ <;> repeat (intro _ <;> refine goS ?_))
    (first | refine Pure.call (hC) ?_ | refine HCall.pure (hC) ?_) <;> (refine goS ?_ <;> repeat (intro _ <;> refine goS ?_))
    repeat' ((refine bnS (fun hr h => ?_) (fun hr h => ?_) <;> first | (exfalso; omega) | ((refine goS ?_ <;> repeat (intro _ <;> refine goS ?_)))))
    all_goals exact ret_now _ rfl
  by_cases hnl : l.length ≤ 12 ∧ x.inc < s.next
  case neg =>
    rw [hE] at hC
    refine Pure.ev Tryz.f8 mx Tryz.func8 (by kernel_rfl) rfl rfl rfl ?_ <;> (refine goS ?_ <;> repeat (intro _ <;> refine goS ?_))
    (first | refine Pure.call (hF) ?_ | refine HCall.pure (hF) ?_) <;> (refine goS ?_ <;> repeat (intro _ <;> refine goS ?_))
    (first | refine Pure.call (hC) ?_ | refine HCall.pure (hC) ?_) <;> (refine goS ?_ <;> repeat (intro _ <;> refine goS ?_))
    repeat' ((refine bnS (fun hr h => ?_) (fun hr h => ?_) <;> first | (exfalso; omega) | ((refine goS ?_ <;> repeat (intro _ <;> refine goS ?_)))))
    all_goals exact ret_now _ rfl
  obtain ⟨hl, hx⟩ := hnl
  rw [hE] at hC
  have hCu := current_p s x
  refine Pure.ev Tryz.f8 mx Tryz.func8 (by kernel_rfl) rfl rfl rfl ?_ <;> (refine goS ?_ <;> repeat (intro _ <;> refine goS ?_))
  (first | refine Pure.call (hF) ?_ | refine HCall.pure (hF) ?_) <;> (refine goS ?_ <;> repeat (intro _ <;> refine goS ?_))
  (first | refine Pure.call (hC) ?_ | refine HCall.pure (hC) ?_) <;> (refine goS ?_ <;> repeat (intro _ <;> refine goS ?_))
  repeat' ((refine bnS (fun hr h => ?_) (fun hr h => ?_) <;> first | (exfalso; omega) | ((refine goS ?_ <;> repeat (intro _ <;> refine goS ?_)))))
  (first | refine Pure.call (hCu) ?_ | refine HCall.pure (hCu) ?_) <;> (refine goS ?_ <;> repeat (intro _ <;> refine goS ?_))
  (first | refine Pure.call (copyState_p s hfw) ?_ | refine HCall.pure (copyState_p s hfw) ?_) <;> (refine goS ?_ <;> repeat (intro _ <;> refine goS ?_))
  refine loop_st (S := Nat × State) (fun z => [(2, slRec l), (4, .hptr 0 11 0 0), (5, .hptr 1 5 0 0), (7, .hptr 2 3 0 0), (11, B (curB z.2 x)), (12, I z.1)])
    (fun z => ⟨3, [(2, some ⟨3, [x.fv.map FV.up], none⟩), (1, some ⟨5, [z.2.fv.map FV.up], none⟩), (0, some ⟨11, [c.fv.map FV.up], none⟩)]⟩)
    (fun z => z.1 ≤ l.length ∧ Good c z.2 ∧ x.inc < z.2.next) (fun z => l.length - z.1) (0, s)
    (Wk.cut rfl ⟨⟨rfl, rfl⟩, ⟨rfl, rfl⟩, ⟨rfl, rfl⟩, ⟨rfl, rfl⟩, ⟨rfl, rfl⟩, ⟨rfl, rfl⟩, trivial⟩ ⟨⟨rfl, rfl, row1 rfl, nofun⟩, ⟨rfl, rfl, row1 rfl, nofun⟩, ⟨rfl, rfl, row1 rfl, nofun⟩, trivial⟩) ⟨Nat.zero_le _, ⟨hE, hw⟩, hx⟩ ?_
  clear hCu hC hF hf hE hfw hw hx
  rintro ⟨k, st⟩ ⟨hk, hG, hx⟩
  dsimp only at hk hG hx
  by_cases hk2 : k < l.length
  case neg =>
    (refine goS ?_ <;> repeat (intro _ <;> refine goS ?_))
    repeat' ((refine bnS (fun hr h => ?_) (fun hr h => ?_) <;> first | (exfalso; omega) | ((refine goS ?_ <;> repeat (intro _ <;> refine goS ?_)))))
    (first | refine Pure.call (hAw) ?_ | refine HCall.pure (hAw) ?_) <;> (refine goS ?_ <;> repeat (intro _ <;> refine goS ?_))
    exact ret_now _ rfl
  have hA := apply_p c st (l.getD k default) (good_few hG.1) hG.2 (hkd k)
  have hkeep := apply_keeps (c := c) (s := st) (r := l.getD k default) hG.2
  have hmono := apply_mono (c := c) (s := st) (r := l.getD k default)
  have hgone := gone (c := c) (s := st) (r := l.getD k default) (x := x) hG.2
  have hzz := apply_z c st (l.getD k default)
  generalize applyF c st (l.getD k default) = z at hA hkeep hmono hgone hzz
  obtain ⟨e, s2⟩ := z
  dsimp only at hkeep hmono hgone hzz
  have hw1 : Go.IntKind.i64.wrap ((k : Int) + 1) = ((k + 1 : Nat) : Int) := wrapS (show k < 9223372036854775807 by omega)
  (refine goS ?_ <;> repeat (intro _ <;> refine goS ?_))
  repeat' ((refine bnS (fun hr h => ?_) (fun hr h => ?_) <;> first | (exfalso; omega) | ((refine goS ?_ <;> repeat (intro _ <;> refine goS ?_)))))
  (first | refine Pure.call (hA) ?_ | refine HCall.pure (hA) ?_) <;> (refine goS ?_ <;> repeat (intro _ <;> refine goS ?_))
  by_cases he : e = 0
  case neg =>
    (refine bnS (fun hr h => ?_) (fun hr h => ?_) <;> first | (exfalso; omega) | ((refine goS ?_ <;> repeat (intro _ <;> refine goS ?_))))
    exact ⟨(k + 1, st), by dsimp only; omega, ⟨by dsimp only; omega, hG, hx⟩, Wk.cut rfl ⟨⟨rfl, rfl⟩, ⟨rfl, rfl⟩, ⟨rfl, rfl⟩, ⟨rfl, rfl⟩, ⟨rfl, rfl⟩, ⟨congrArg I hw1, rfl⟩, trivial⟩ ⟨⟨rfl, rfl, row1 rfl, nofun⟩, ⟨rfl, rfl, row1 rfl, nofun⟩, ⟨rfl, rfl, row1 rfl, nofun⟩, trivial⟩⟩
  have hG2 := hkeep he
  have hx2 : x.inc < s2.next := by have := (hmono he).2.1; split at this <;> omega
  have hC2 := current_p s2 x
  have hgn := hgone he hx
  rw [← curB_iff, ← curB_iff] at hgn
  clear hkeep hmono hgone hzz
  (refine bnS (fun hr h => ?_) (fun hr h => ?_) <;> first | (exfalso; omega) | ((refine goS ?_ <;> repeat (intro _ <;> refine goS ?_))))
  (first | refine Pure.call (hC2) ?_ | refine HCall.pure (hC2) ?_) <;> (refine goS ?_ <;> repeat (intro _ <;> refine goS ?_))
  cases hb : curB s2 x <;> cases hb1 : curB st x
  case true.false => exact absurd hb (hgn (by rw [hb1]; decide))
  all_goals
    (refine goS ?_ <;> repeat (intro _ <;> refine goS ?_))
    exact ⟨(k + 1, s2), by dsimp only; omega, ⟨by dsimp only; omega, hG2, hx2⟩, Wk.cut rfl ⟨⟨rfl, rfl⟩, ⟨rfl, rfl⟩, ⟨rfl, rfl⟩, ⟨rfl, rfl⟩, ⟨congrArg B hb.symm, rfl⟩, ⟨congrArg I hw1, rfl⟩, trivial⟩ ⟨⟨rfl, rfl, row1 rfl, nofun⟩, ⟨rfl, rfl, row1 rfl, nofun⟩, ⟨rfl, rfl, row1 rfl, nofun⟩, trivial⟩⟩
end Go.Proofs.YtdblhmpcilihnaaGreat
