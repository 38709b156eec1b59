/- state.Fold. -/
import Derived.Test.YtdblhmpcilihnaaGreatL3
namespace Go.Proofs.YtdblhmpcilihnaaGreat
open Go.RowKit E
set_option maxRecDepth 100000
set_option linter.unusedVariables false
set_option linter.unusedSimpArgs false
open Classical in
/-- The state after k records. -/
noncomputable def foldK (c : Config) (s : State) (f : Nat → Rec) : Nat → Int × State
  | 0 => (0, s)
  | k + 1 => if (foldK c s f k).1 ≠ 0 then foldK c s f k else if (applyF c (foldK c s f k).2 (f k)).1 = 0 then applyF c (foldK c s f k).2 (f k) else ((applyF c (foldK c s f k).2 (f k)).1, zS)
theorem foldK_ok {c : Config} {s st : State} {f : Nat → Rec} {k : Nat} {z : Int × State} (h : foldK c s f k = (0, st)) (hz : applyF c st (f k) = z) (h0 : z.1 = 0) : foldK c s f (k + 1) = z := by
  unfold foldK
  rw [h, if_neg (fun h => h rfl), hz, if_pos h0]
theorem foldK_err {c : Config} {s st : State} {f : Nat → Rec} {k : Nat} {z : Int × State} (h : foldK c s f k = (0, st)) (hz : applyF c st (f k) = z) (h0 : z.1 ≠ 0) : foldK c s f (k + 1) = (z.1, zS) := by
  unfold foldK
  rw [h, if_neg (fun h => h rfl), hz, if_neg h0]
theorem foldK_stop {c : Config} {s : State} {f : Nat → Rec} {k : Nat} (h : (foldK c s f k).1 ≠ 0) : ∀ d, foldK c s f (k + d) = foldK c s f k := by
  intro d
  induction d with
  | zero => rfl
  | succ d ih =>
    rw [show k + (d + 1) = (k + d) + 1 by omega]
    conv => lhs; unfold foldK
    rw [ih, if_pos h]
set_option maxHeartbeats 4000000 in
theorem fold_p (c : Config) (s : State) (f : Nat → Rec) (n : Nat) (hG : Good c s) (hk : ∀ i, 0 ≤ (f i).kind) : Pure Tryz.prog 41 [c.av, s.av, .sl 15 n fun i => Rec.fv (f i)] (resS (foldK c s f n)) := by
  have hS := stCheck_p c s (good_few hG.1) hG.2
  rw [hG.1] at hS
  refine Pure.ev Tryz.f41 mx Tryz.func41 (by kernel_rfl) rfl rfl rfl ?_ <;> (refine goS ?_ <;> repeat (intro _ <;> refine goS ?_))
  (first | refine Pure.call (hS) ?_ | refine HCall.pure (hS) ?_) <;> (refine goS ?_ <;> repeat (intro _ <;> refine goS ?_))
  repeat' ((refine bnS (fun hr h => ?_) (fun hr h => ?_) <;> first | (exfalso; omega) | ((refine goS ?_ <;> repeat (intro _ <;> refine goS ?_)))))
  (first | refine NPure.acalls (copyO_n s (good_few hG.1)) ?_ | refine HCall.neu (copyO_n s (good_few hG.1)) ?_) <;> (refine goS ?_ <;> repeat (intro _ <;> refine goS ?_))
  refine loop_st (S := Nat × State) (fun z => [(3, .hptr 0 11 0 0), (6, .hptr 2 5 0 0), (9, .hptr 4 5 0 0), (22, .sl 15 n fun i => Rec.fv (f i)), (23, I n), (24, I z.1)])
    (fun z => ⟨5, [(4, some ⟨5, [(State.fv z.2).map FV.up], none⟩), (2, some ⟨5, [[I 0, I 0, I 0, I 0, nilV0]], none⟩), (0, some ⟨11, [c.fv.map FV.up], none⟩)]⟩)
    (fun z => z.1 ≤ n ∧ Good c z.2 ∧ foldK c s f z.1 = (0, z.2)) (fun z => n - z.1) (0, s)
    (Wk.trans (Wk.cut (fr1 := [(3, .hptr 0 11 0 0), (6, .hptr 2 5 0 0), (9, .hptr 4 5 0 0), (22, .sl 15 n fun i => Rec.fv (f i)), (23, I n), (24, I 0)]) (H1 := ⟨5, [(4, some ⟨5, [stV s (alV 3 s.allocs.length)], none⟩), (3, some ⟨10, rowsL Alloc.fv s.allocs, none⟩), (2, some ⟨5, [[I 0, I 0, I 0, I 0, nilV0]], none⟩), (0, some ⟨11, [c.fv.map FV.up], none⟩)]⟩) rfl ⟨⟨rfl, rfl⟩, ⟨rfl, rfl⟩, ⟨rfl, rfl⟩, ⟨rfl, rfl⟩, ⟨rfl, rfl⟩, ⟨rfl, rfl⟩, trivial⟩ ⟨⟨rfl, rfl, row1 rfl, nofun⟩, ⟨congrArg (fun r => some (E.Blk.mk 10 r none)) (rowsL_shA _ _), rfl, bd_rows rowsL_free, nofun⟩, ⟨rfl, rfl, row1 rfl, nofun⟩, ⟨rfl, rfl, row1 rfl, nofun⟩, trivial⟩)
      (Wk.frz (es1 := [(4, some ⟨5, [(State.fv s).map FV.up], none⟩), (2, some ⟨5, [[I 0, I 0, I 0, I 0, nilV0]], none⟩), (0, some ⟨11, [c.fv.map FV.up], none⟩)]) (fun id => id == 3) ⟨rfl, rfl, rfl, rfl, rfl, rfl, trivial⟩ ⟨⟨rfl, _, rfl, .inr ⟨rfl, rfl, rfl, fzRows1 ⟨rfl, rfl, rfl, rfl, frz_rows rfl rfl rfl, trivial⟩⟩⟩, ⟨rfl, _, rfl, .inl rfl⟩, ⟨rfl, _, rfl, .inl rfl⟩, trivial⟩))
    ⟨Nat.zero_le _, hG, rfl⟩ ?_
  clear hS
  rintro ⟨k, st⟩ ⟨hkn, hGs, hF⟩
  dsimp only at hkn hGs hF
  by_cases hk2 : k < n
  case neg =>
    have : k = n := by omega
    subst this
    rw [hF]
    (refine goS ?_ <;> repeat (intro _ <;> refine goS ?_))
    repeat' ((refine bnS (fun hr h => ?_) (fun hr h => ?_) <;> first | (exfalso; omega) | ((refine goS ?_ <;> repeat (intro _ <;> refine goS ?_)))))
    exact ret_now _ rfl
  have hA := apply_p c st (f k) (good_few hGs.1) hGs.2 (hk k)
  have hkeep := apply_keeps (c := c) (s := st) (r := f k) hGs.2
  generalize hz : applyF c st (f k) = z at hA hkeep
  have hok := foldK_ok hF hz
  have herr := foldK_err hF hz
  obtain ⟨e, s2⟩ := z
  dsimp only at hok herr hkeep
  have hw1 : Go.IntKind.i64.wrap ((k : Int) + 1) = ((k + 1 : Nat) : Int) := wrapS (show k < 9223372036854775807 by omega)
  by_cases he : e = 0
  · have h1 := hok he
    subst he
    (refine goS ?_ <;> repeat (intro _ <;> refine goS ?_))
    repeat' ((refine bnS (fun hr h => ?_) (fun hr h => ?_) <;> first | (exfalso; omega) | ((refine goS ?_ <;> repeat (intro _ <;> refine goS ?_)))))
    (first | refine Pure.call (hA) ?_ | refine HCall.pure (hA) ?_) <;> (refine goS ?_ <;> repeat (intro _ <;> refine goS ?_))
    repeat' ((refine bnS (fun hr h => ?_) (fun hr h => ?_) <;> first | (exfalso; omega) | ((refine goS ?_ <;> repeat (intro _ <;> refine goS ?_)))))
    exact ⟨(k + 1, s2), by dsimp only; omega, ⟨by dsimp only; omega, hkeep rfl, h1⟩, Wk.cut rfl ⟨⟨rfl, rfl⟩, ⟨rfl, rfl⟩, ⟨rfl, rfl⟩, ⟨rfl, rfl⟩, ⟨rfl, rfl⟩, ⟨congrArg I hw1, rfl⟩, trivial⟩ ⟨⟨rfl, rfl, row1 rfl, nofun⟩, ⟨rfl, rfl, row1 rfl, nofun⟩, ⟨rfl, rfl, row1 rfl, nofun⟩, trivial⟩⟩
  · have h1 := herr he
    have h2 := foldK_stop (c := c) (s := s) (f := f) (k := k + 1) (by rw [h1]; exact he) (n - (k + 1))
    rw [show k + 1 + (n - (k + 1)) = n by omega, h1] at h2
    rw [h2]
    (refine goS ?_ <;> repeat (intro _ <;> refine goS ?_))
    repeat' ((refine bnS (fun hr h => ?_) (fun hr h => ?_) <;> first | (exfalso; omega) | ((refine goS ?_ <;> repeat (intro _ <;> refine goS ?_)))))
    (first | refine Pure.call (hA) ?_ | refine HCall.pure (hA) ?_) <;> (refine goS ?_ <;> repeat (intro _ <;> refine goS ?_))
    repeat' ((refine bnS (fun hr h => ?_) (fun hr h => ?_) <;> first | (exfalso; omega) | ((refine goS ?_ <;> repeat (intro _ <;> refine goS ?_)))))
    exact ret_frz (frz_zS rfl) rfl
end Go.Proofs.YtdblhmpcilihnaaGreat
