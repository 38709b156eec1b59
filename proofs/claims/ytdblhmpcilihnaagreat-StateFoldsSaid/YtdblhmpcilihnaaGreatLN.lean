/- Records brought near, and other helpers of the laws of layer 20. -/
import Derived.Test.YtdblhmpcilihnaaGreatLd
namespace Go.Proofs.YtdblhmpcilihnaaGreat
open Go.RowKit E
set_option maxRecDepth 100000
set_option linter.unusedVariables false
set_option linter.unusedSimpArgs false
/-- A record brought near. -/
def nearF (r : Rec) : Rec :=
  if (r.kind - 1) % 9 = 0 then ⟨1, r.epoch % 4, specN r.spec, 0, 0, 0, 0, 0, 0, 0⟩ else
  if (r.kind - 1) % 9 = 1 then ⟨2, r.epoch % 4, zSp, r.id % 4, 0, r.tick % 40, r.wait % 5, 0, 0, 0⟩ else
  if (r.kind - 1) % 9 = 2 then ⟨3, r.epoch % 4, zSp, r.id % 4, 0, 0, 0, 0, 0, 0⟩ else
  if (r.kind - 1) % 9 = 3 then ⟨4, 0, zSp, r.id % 4, r.task % 2, r.tick % 40, 0, 0, 0, 0⟩ else
  if (r.kind - 1) % 9 = 4 then ⟨5, 0, zSp, r.id % 4, r.task % 2, 0, 0, r.pid % 9, r.nonce % 9, 0⟩ else
  if (r.kind - 1) % 9 = 7 then ⟨8, 0, zSp, r.id % 4, r.task % 2, r.tick % 40, 0, 0, 0, r.code⟩ else
  if (r.kind - 1) % 9 = 8 then ⟨9, 0, zSp, 0, 0, r.tick % 40, 0, 0, 0, 0⟩ else
  ⟨(r.kind - 1) % 9 + 1, 0, zSp, r.id % 4, r.task % 2, 0, 0, 0, 0, 0⟩
set_option maxHeartbeats 4000000 in
theorem near_p (r : Rec) (h0 : 0 ≤ r.kind ∧ r.kind ≤ 255) : Pure Tryz.prog 25 [r.av] (nearF r).av := by
  have hS := spec_p r.spec
  have e0 : wr r.kind = r.kind := wrap_id (by omega) (by omega)
  have e1 : wr (wr r.kind - 1) = r.kind - 1 := by rw [e0]; exact wrap_id (by omega) (by omega)
  have hM := mod_p (wr (wr r.kind - 1)) 9 (by omega) (by omega)
  have e2 : ∀ m, (r.kind - 1) % 9 = m → wr (wr r.kind - 1) % 9 = m := fun m h => by rw [e1]; exact h
  have hb := mb (r.kind - 1) 9 (by omega)
  have hc : (r.kind - 1) % 9 = 0 ∨ (r.kind - 1) % 9 = 1 ∨ (r.kind - 1) % 9 = 2 ∨ (r.kind - 1) % 9 = 3 ∨ (r.kind - 1) % 9 = 4 ∨ (r.kind - 1) % 9 = 5 ∨ (r.kind - 1) % 9 = 6 ∨ (r.kind - 1) % 9 = 7 ∨ (r.kind - 1) % 9 = 8 := by omega
  unfold nearF
  obtain ⟨k, ep, sp, id, ta, ti, wa, pi, no, co⟩ := r
  dsimp only at *
  rcases hc with h | h | h | h | h | h | h | h | h <;> rw [e2 _ h] at hM <;> simp only [h] <;> clear e0 e1 e2
  all_goals (refine Pure.ev Tryz.f25 mx Tryz.func25 (by kernel_rfl) rfl rfl rfl ?_ <;> (refine goS ?_ <;> repeat (intro _ <;> refine goS ?_)))
  all_goals ((first | refine Pure.call (hM) ?_ | refine HCall.pure (hM) ?_) <;> (refine goS ?_ <;> repeat (intro _ <;> refine goS ?_)))
  all_goals (repeat (first | ((first | refine Pure.call (mod_p _ _ (by omega) (by omega)) ?_ | refine HCall.pure (mod_p _ _ (by omega) (by omega)) ?_) <;> (refine goS ?_ <;> repeat (intro _ <;> refine goS ?_))) | ((first | refine Pure.call (hS) ?_ | refine HCall.pure (hS) ?_) <;> (refine goS ?_ <;> repeat (intro _ <;> refine goS ?_)))))
  · exact ret_now _ rfl
  · exact ret_via (Wk.cut (fr1 := [(0, .agg [U8 2, I (ep % 4), I 0, I 0, I 0, I 0, nilV0, nilV0, I (id % 4), I 0, I (ti % 40), I (wa % 5), I 0, I 0, I 0])]) (H1 := ⟨0, []⟩) rfl ⟨⟨rfl, rfl⟩, trivial⟩ trivial) (ret_frz (x1 := Rec.av ⟨2, ep % 4, zSp, id % 4, 0, ti % 40, wa % 5, 0, 0, 0⟩) ⟨rfl, rfl, rfl, rfl, rfl, rfl, rfl, rfl, rfl, rfl, rfl, rfl, rfl, rfl, rfl, trivial⟩ rfl)
  · exact ret_via (Wk.cut (fr1 := [(0, .agg [U8 3, I (ep % 4), I 0, I 0, I 0, I 0, nilV0, nilV0, I (id % 4), I 0, I 0, I 0, I 0, I 0, I 0])]) (H1 := ⟨0, []⟩) rfl ⟨⟨rfl, rfl⟩, trivial⟩ trivial) (ret_frz (x1 := Rec.av ⟨3, ep % 4, zSp, id % 4, 0, 0, 0, 0, 0, 0⟩) ⟨rfl, rfl, rfl, rfl, rfl, rfl, rfl, rfl, rfl, rfl, rfl, rfl, rfl, rfl, rfl, trivial⟩ rfl)
  · exact ret_via (Wk.cut (fr1 := [(0, .agg [U8 4, I 0, I 0, I 0, I 0, I 0, nilV0, nilV0, I (id % 4), I (ta % 2), I (ti % 40), I 0, I 0, I 0, I 0])]) (H1 := ⟨0, []⟩) rfl ⟨⟨rfl, rfl⟩, trivial⟩ trivial) (ret_frz (x1 := Rec.av ⟨4, 0, zSp, id % 4, ta % 2, ti % 40, 0, 0, 0, 0⟩) ⟨rfl, rfl, rfl, rfl, rfl, rfl, rfl, rfl, rfl, rfl, rfl, rfl, rfl, rfl, rfl, trivial⟩ rfl)
  · exact ret_via (Wk.cut (fr1 := [(0, .agg [U8 5, I 0, I 0, I 0, I 0, I 0, nilV0, nilV0, I (id % 4), I (ta % 2), I 0, I 0, I (pi % 9), I (no % 9), I 0])]) (H1 := ⟨0, []⟩) rfl ⟨⟨rfl, rfl⟩, trivial⟩ trivial) (ret_frz (x1 := Rec.av ⟨5, 0, zSp, id % 4, ta % 2, 0, 0, pi % 9, no % 9, 0⟩) ⟨rfl, rfl, rfl, rfl, rfl, rfl, rfl, rfl, rfl, rfl, rfl, rfl, rfl, rfl, rfl, trivial⟩ rfl)
  · exact ret_via (Wk.cut (fr1 := [(0, .agg [U8 6, I 0, I 0, I 0, I 0, I 0, nilV0, nilV0, I (id % 4), I (ta % 2), I 0, I 0, I 0, I 0, I 0])]) (H1 := ⟨0, []⟩) rfl ⟨⟨rfl, rfl⟩, trivial⟩ trivial) (ret_frz (x1 := Rec.av ⟨6, 0, zSp, id % 4, ta % 2, 0, 0, 0, 0, 0⟩) ⟨rfl, rfl, rfl, rfl, rfl, rfl, rfl, rfl, rfl, rfl, rfl, rfl, rfl, rfl, rfl, trivial⟩ rfl)
  · exact ret_via (Wk.cut (fr1 := [(0, .agg [U8 7, I 0, I 0, I 0, I 0, I 0, nilV0, nilV0, I (id % 4), I (ta % 2), I 0, I 0, I 0, I 0, I 0])]) (H1 := ⟨0, []⟩) rfl ⟨⟨rfl, rfl⟩, trivial⟩ trivial) (ret_frz (x1 := Rec.av ⟨7, 0, zSp, id % 4, ta % 2, 0, 0, 0, 0, 0⟩) ⟨rfl, rfl, rfl, rfl, rfl, rfl, rfl, rfl, rfl, rfl, rfl, rfl, rfl, rfl, rfl, trivial⟩ rfl)
  · exact ret_via (Wk.cut (fr1 := [(0, .agg [U8 8, I 0, I 0, I 0, I 0, I 0, nilV0, nilV0, I (id % 4), I (ta % 2), I (ti % 40), I 0, I 0, I 0, I co])]) (H1 := ⟨0, []⟩) rfl ⟨⟨rfl, rfl⟩, trivial⟩ trivial) (ret_frz (x1 := Rec.av ⟨8, 0, zSp, id % 4, ta % 2, ti % 40, 0, 0, 0, co⟩) ⟨rfl, rfl, rfl, rfl, rfl, rfl, rfl, rfl, rfl, rfl, rfl, rfl, rfl, rfl, rfl, trivial⟩ rfl)
  · exact ret_via (Wk.cut (fr1 := [(0, .agg [U8 9, I 0, I 0, I 0, I 0, I 0, nilV0, nilV0, I 0, I 0, I (ti % 40), I 0, I 0, I 0, I 0])]) (H1 := ⟨0, []⟩) rfl ⟨⟨rfl, rfl⟩, trivial⟩ trivial) (ret_frz (x1 := Rec.av ⟨9, 0, zSp, 0, 0, ti % 40, 0, 0, 0, 0⟩) ⟨rfl, rfl, rfl, rfl, rfl, rfl, rfl, rfl, rfl, rfl, rfl, rfl, rfl, rfl, rfl, trivial⟩ rfl)
theorem new_p : Pure Tryz.prog 21 [] (State.av ⟨0, 1, 1, -1, []⟩) := by
  refine Pure.ev Tryz.f21 mx Tryz.func21 (by kernel_rfl) rfl rfl rfl ?_ <;> (refine goS ?_ <;> repeat (intro _ <;> refine goS ?_))
  exact ret_via (Wk.cut (fr1 := [(0, .agg [I 0, I 1, I 1, I (-1), nilV0])]) (H1 := ⟨0, []⟩) rfl ⟨⟨rfl, rfl⟩, trivial⟩ trivial) (ret_frz (x1 := State.av ⟨0, 1, 1, -1, []⟩) ⟨rfl, rfl, rfl, rfl, rfl, trivial⟩ rfl)
theorem seven_p : Pure Tryz.prog 18 [] (Spec.av ⟨7, ⟨4, 4, 4⟩, [80], [⟨⟨false, 2, 20, 2, 8⟩, 0⟩]⟩) := by
  refine Pure.ev Tryz.f18 mx Tryz.func18 (by kernel_rfl) rfl rfl rfl ?_ <;> (refine goS ?_ <;> repeat (intro _ <;> refine goS ?_))
  exact ret_via (Wk.cut (fr1 := [(0, .agg [I 7, I 4, I 4, I 4, .hsl 1 1 0 1 1 true, .hsl 2 6 0 1 1 true])]) (H1 := ⟨3, [(2, some ⟨6, rowsL TaskSpec.fv [⟨⟨false, 2, 20, 2, 8⟩, 0⟩], none⟩), (1, some ⟨1, rowsL fvI [80], none⟩)]⟩) rfl ⟨⟨rfl, rfl⟩, trivial⟩ ⟨⟨rfl, rfl, bd_rows rowsL_free, nofun⟩, ⟨rfl, rfl, bd_rows rowsL_free, nofun⟩, trivial⟩) (ret_frz (x1 := Spec.av ⟨7, ⟨4, 4, 4⟩, [80], [⟨⟨false, 2, 20, 2, 8⟩, 0⟩]⟩) ⟨rfl, rfl, rfl, rfl, frz_rows (fv := fvI) (L := [80]) rfl rfl rfl, frz_rows (fv := TaskSpec.fv) (L := [⟨⟨false, 2, 20, 2, 8⟩, 0⟩]) rfl rfl rfl, trivial⟩ rfl)
theorem two_p : Pure Tryz.prog 49 [] (cfgF 1).av := by
  refine Pure.ev Tryz.f49 mx Tryz.func49 (by kernel_rfl) rfl rfl rfl ?_ <;> (refine goS ?_ <;> repeat (intro _ <;> refine goS ?_))
  (first | refine Pure.call (cfg_p 1) ?_ | refine HCall.pure (cfg_p 1) ?_) <;> (refine goS ?_ <;> repeat (intro _ <;> refine goS ?_))
  exact ret_now _ rfl
end Go.Proofs.YtdblhmpcilihnaaGreat
