/- spec.Check: printed by gen_spec.py. -/
import Derived.Test.YtdblhmpcilihnaaGreatM1
namespace Go.Proofs.YtdblhmpcilihnaaGreat
open Go.RowKit E
set_option maxRecDepth 100000
set_option linter.unusedVariables false
set_option linter.unusedSimpArgs false

set_option maxHeartbeats 4000000 in
theorem specCheck_0 (s : Spec) (hl : s.tasks.length = 0) : Pure Tryz.prog 65 [s.av] (I (specE s)) := by
  obtain ⟨w1, w2, w3, w4, w5⟩ := wu
  refine Pure.ev Tryz.f65 mx Tryz.func65 (by kernel_rfl) rfl rfl rfl ?_ <;> (refine goS ?_ <;> repeat (intro _ <;> refine goS ?_))
  refine loop_u 5 ?_
  (refine goS ?_ <;> repeat (intro _ <;> refine goS ?_))
  repeat' ((refine bnS (fun hr h => ?_) (fun hr h => ?_) <;> first | (exfalso; omega) | ((refine goS ?_ <;> repeat (intro _ <;> refine goS ?_)))))
  refine ACalls.ev Tryz.f110 mx Tryz.func110 (by kernel_rfl) rfl ?_ <;> (refine goS ?_ <;> repeat (intro _ <;> refine goS ?_))
  refine loop_st (S := Nat) (fun k => [(6, .hsl 1 1 0 4 4 true), (7, I 4), (8, I k)])
    (fun k => ⟨2, [(1, some ⟨1, [cl2 123 0, cl2 124 0, cl2 125 0, cl2 127 0], none⟩), (0, some ⟨6, [s.fv.map FV.up], none⟩)]⟩)
    (fun k => k ≤ 4 ∧ ∀ j, j < k → spF s j) (fun k => 4 - k) 0
    (Wk.cut rfl ⟨⟨rfl, rfl⟩, ⟨rfl, rfl⟩, ⟨rfl, rfl⟩, trivial⟩ ⟨⟨rfl, rfl, fun row hr => by simp [cl2] at hr; rcases hr with rfl | rfl | rfl | rfl <;> rfl, nofun⟩, ⟨rfl, rfl, row1 rfl, nofun⟩, trivial⟩) ⟨Nat.zero_le _, fun j hj => absurd hj (Nat.not_lt_zero j)⟩ ?_
  rintro k ⟨hk, hc⟩
  have hk' : k = 0 ∨ k = 1 ∨ k = 2 ∨ k = 3 ∨ k = 4 := by omega
  clear w1 w2 w3 w4 w5
  rcases hk' with rfl | rfl | rfl | rfl | rfl
  all_goals (refine goS ?_ <;> repeat (intro _ <;> refine goS ?_))
  all_goals (repeat' (first
    | ((refine bnS (fun hr h => ?_) (fun hr h => ?_) <;> first | (exact False.elim h) | ((refine goS ?_ <;> repeat (intro _ <;> refine goS ?_)))))
    | ((first | refine Pure.call (specIn_p _ _ _) ?_ | refine HCall.pure (specIn_p _ _ _) ?_) <;> (refine goS ?_ <;> repeat (intro _ <;> refine goS ?_)))
    | ((first | refine Pure.call (resCheck_p _) ?_ | refine HCall.pure (resCheck_p _) ?_) <;> (refine goS ?_ <;> repeat (intro _ <;> refine goS ?_)))
    | ((first | refine Pure.call (portsCheck_p _) ?_ | refine HCall.pure (portsCheck_p _) ?_) <;> (refine goS ?_ <;> repeat (intro _ <;> refine goS ?_)))
    | ((first | refine Pure.call (delay_p _) ?_ | refine HCall.pure (delay_p _) ?_) <;> (refine goS ?_ <;> repeat (intro _ <;> refine goS ?_)))
    | (refine ACalls.ev Tryz.f123 mx Tryz.func123 (by kernel_rfl) rfl ?_ <;> (refine goS ?_ <;> repeat (intro _ <;> refine goS ?_)))
    | (refine ACalls.ev Tryz.f124 mx Tryz.func124 (by kernel_rfl) rfl ?_ <;> (refine goS ?_ <;> repeat (intro _ <;> refine goS ?_)))
    | (refine ACalls.ev Tryz.f125 mx Tryz.func125 (by kernel_rfl) rfl ?_ <;> (refine goS ?_ <;> repeat (intro _ <;> refine goS ?_)))
    | (refine ACalls.ev Tryz.f127 mx Tryz.func127 (by kernel_rfl) rfl ?_ <;> (refine goS ?_ <;> repeat (intro _ <;> refine goS ?_)))
    | (refine ACalls.ev Tryz.f128 mx Tryz.func128 (by kernel_rfl) rfl ?_ <;> (refine goS ?_ <;> repeat (intro _ <;> refine goS ?_)))
    | (refine ACalls.ev Tryz.f130 mx Tryz.func130 (by kernel_rfl) rfl ?_ <;> (refine goS ?_ <;> repeat (intro _ <;> refine goS ?_)))
    | (refine ret_now _ ?_ <;> (refine goS ?_ <;> repeat (intro _ <;> refine goS ?_)))))
  all_goals first
    | exact ⟨_, by decide, ⟨by decide, spF_step hc (by have h2 := of_z h; exact h2)⟩, Wk.sub ⟨rfl, rfl, rfl, trivial⟩⟩
    | exact ⟨_, by decide, ⟨by decide, spF_step hc h⟩, Wk.sub ⟨rfl, rfl, rfl, trivial⟩⟩
    | exact ⟨_, by decide, ⟨by decide, spF_step hc ⟨by simp_all, by omega⟩⟩, Wk.sub ⟨rfl, rfl, rfl, trivial⟩⟩
    | exact leaf_0 rfl h
    | exact leaf_1 hc rfl h
    | exact leaf_2 hc h
    | exact leaf_3a hc (by simp_all)
    | exact leaf_3b hc (by omega)
    | exact leaf_ts 0 hc (by decide) (by omega) (fun ho => h (eUn_y ho.1)) h
    | exact leaf_ts 0 hc (by decide) (by omega) (fun ho => h (eUn_y ho.2)) h
    | exact leaf_ts 1 hc (by decide) (by omega) (fun ho => h (eUn_y ho.1)) h
    | exact leaf_ts 1 hc (by decide) (by omega) (fun ho => h (eUn_y ho.2)) h
    | exact leaf_ts 2 hc (by decide) (by omega) (fun ho => h (eUn_y ho.1)) h
    | exact leaf_ts 2 hc (by decide) (by omega) (fun ho => h (eUn_y ho.2)) h
    | exact leaf_ts 3 hc (by decide) (by omega) (fun ho => h (eUn_y ho.1)) h
    | exact leaf_ts 3 hc (by decide) (by omega) (fun ho => h (eUn_y ho.2)) h
    | exact leaf_end (fun j hj => hc j (by omega)) (by omega)
    | (have h3 := (hc 3 (by decide)).2; exact leaf_end (fun j hj => hc j (by omega)) (by omega))
    | (have h3 := (hc 3 (by decide)).1; exfalso; omega)

set_option maxHeartbeats 4000000 in
theorem specCheck_1 (s : Spec) (hl : s.tasks.length = 1) : Pure Tryz.prog 65 [s.av] (I (specE s)) := by
  obtain ⟨w1, w2, w3, w4, w5⟩ := wu
  refine Pure.ev Tryz.f65 mx Tryz.func65 (by kernel_rfl) rfl rfl rfl ?_ <;> (refine goS ?_ <;> repeat (intro _ <;> refine goS ?_))
  refine loop_u 5 ?_
  (refine goS ?_ <;> repeat (intro _ <;> refine goS ?_))
  repeat' ((refine bnS (fun hr h => ?_) (fun hr h => ?_) <;> first | (exfalso; omega) | ((refine goS ?_ <;> repeat (intro _ <;> refine goS ?_)))))
  refine ACalls.ev Tryz.f110 mx Tryz.func110 (by kernel_rfl) rfl ?_ <;> (refine goS ?_ <;> repeat (intro _ <;> refine goS ?_))
  refine loop_st (S := Nat) (fun k => [(6, .hsl 4 1 0 6 6 false), (7, I 6), (8, I k)])
    (fun k => ⟨5, [(4, some ⟨1, [cl2 123 0, cl2 124 0, cl2 125 0, cl2 127 0, cl2 128 2, cl2 130 2], none⟩), (2, some ⟨6, [(TaskSpec.fv (s.tasks.getD 0 default)).map FV.up], none⟩), (0, some ⟨6, [s.fv.map FV.up], none⟩)]⟩)
    (fun k => k ≤ 6 ∧ ∀ j, j < k → spF s j) (fun k => 6 - k) 0
    (Wk.cut rfl ⟨⟨rfl, rfl⟩, ⟨rfl, rfl⟩, ⟨rfl, rfl⟩, trivial⟩ ⟨⟨rfl, rfl, fun row hr => by simp [cl2] at hr; rcases hr with rfl | rfl | rfl | rfl | rfl | rfl <;> rfl, nofun⟩, ⟨rfl, rfl, row1 rfl, nofun⟩, ⟨rfl, rfl, row1 rfl, nofun⟩, trivial⟩) ⟨Nat.zero_le _, fun j hj => absurd hj (Nat.not_lt_zero j)⟩ ?_
  rintro k ⟨hk, hc⟩
  have hk' : k = 0 ∨ k = 1 ∨ k = 2 ∨ k = 3 ∨ k = 4 ∨ k = 5 ∨ k = 6 := by omega
  clear w1 w2 w3 w4 w5
  rcases hk' with rfl | rfl | rfl | rfl | rfl | rfl | rfl
  all_goals (refine goS ?_ <;> repeat (intro _ <;> refine goS ?_))
  all_goals (repeat' (first
    | ((refine bnS (fun hr h => ?_) (fun hr h => ?_) <;> first | (exact False.elim h) | ((refine goS ?_ <;> repeat (intro _ <;> refine goS ?_)))))
    | ((first | refine Pure.call (specIn_p _ _ _) ?_ | refine HCall.pure (specIn_p _ _ _) ?_) <;> (refine goS ?_ <;> repeat (intro _ <;> refine goS ?_)))
    | ((first | refine Pure.call (resCheck_p _) ?_ | refine HCall.pure (resCheck_p _) ?_) <;> (refine goS ?_ <;> repeat (intro _ <;> refine goS ?_)))
    | ((first | refine Pure.call (portsCheck_p _) ?_ | refine HCall.pure (portsCheck_p _) ?_) <;> (refine goS ?_ <;> repeat (intro _ <;> refine goS ?_)))
    | ((first | refine Pure.call (delay_p _) ?_ | refine HCall.pure (delay_p _) ?_) <;> (refine goS ?_ <;> repeat (intro _ <;> refine goS ?_)))
    | (refine ACalls.ev Tryz.f123 mx Tryz.func123 (by kernel_rfl) rfl ?_ <;> (refine goS ?_ <;> repeat (intro _ <;> refine goS ?_)))
    | (refine ACalls.ev Tryz.f124 mx Tryz.func124 (by kernel_rfl) rfl ?_ <;> (refine goS ?_ <;> repeat (intro _ <;> refine goS ?_)))
    | (refine ACalls.ev Tryz.f125 mx Tryz.func125 (by kernel_rfl) rfl ?_ <;> (refine goS ?_ <;> repeat (intro _ <;> refine goS ?_)))
    | (refine ACalls.ev Tryz.f127 mx Tryz.func127 (by kernel_rfl) rfl ?_ <;> (refine goS ?_ <;> repeat (intro _ <;> refine goS ?_)))
    | (refine ACalls.ev Tryz.f128 mx Tryz.func128 (by kernel_rfl) rfl ?_ <;> (refine goS ?_ <;> repeat (intro _ <;> refine goS ?_)))
    | (refine ACalls.ev Tryz.f130 mx Tryz.func130 (by kernel_rfl) rfl ?_ <;> (refine goS ?_ <;> repeat (intro _ <;> refine goS ?_)))
    | (refine ret_now _ ?_ <;> (refine goS ?_ <;> repeat (intro _ <;> refine goS ?_)))))
  all_goals first
    | exact ⟨_, by decide, ⟨by decide, spF_step hc (by have h2 := of_z h; exact h2)⟩, Wk.sub ⟨rfl, rfl, rfl, trivial⟩⟩
    | exact ⟨_, by decide, ⟨by decide, spF_step hc h⟩, Wk.sub ⟨rfl, rfl, rfl, trivial⟩⟩
    | exact ⟨_, by decide, ⟨by decide, spF_step hc ⟨by simp_all, by omega⟩⟩, Wk.sub ⟨rfl, rfl, rfl, trivial⟩⟩
    | exact leaf_0 rfl h
    | exact leaf_1 hc rfl h
    | exact leaf_2 hc h
    | exact leaf_3a hc (by simp_all)
    | exact leaf_3b hc (by omega)
    | exact leaf_ts 0 hc (by decide) (by omega) (fun ho => h (eUn_y ho.1)) h
    | exact leaf_ts 0 hc (by decide) (by omega) (fun ho => h (eUn_y ho.2)) h
    | exact leaf_ts 1 hc (by decide) (by omega) (fun ho => h (eUn_y ho.1)) h
    | exact leaf_ts 1 hc (by decide) (by omega) (fun ho => h (eUn_y ho.2)) h
    | exact leaf_ts 2 hc (by decide) (by omega) (fun ho => h (eUn_y ho.1)) h
    | exact leaf_ts 2 hc (by decide) (by omega) (fun ho => h (eUn_y ho.2)) h
    | exact leaf_ts 3 hc (by decide) (by omega) (fun ho => h (eUn_y ho.1)) h
    | exact leaf_ts 3 hc (by decide) (by omega) (fun ho => h (eUn_y ho.2)) h
    | exact leaf_end (fun j hj => hc j (by omega)) (by omega)
    | (have h3 := (hc 3 (by decide)).2; exact leaf_end (fun j hj => hc j (by omega)) (by omega))
    | (have h3 := (hc 3 (by decide)).1; exfalso; omega)

set_option maxHeartbeats 4000000 in
theorem specCheck_2 (s : Spec) (hl : s.tasks.length = 2) : Pure Tryz.prog 65 [s.av] (I (specE s)) := by
  obtain ⟨w1, w2, w3, w4, w5⟩ := wu
  refine Pure.ev Tryz.f65 mx Tryz.func65 (by kernel_rfl) rfl rfl rfl ?_ <;> (refine goS ?_ <;> repeat (intro _ <;> refine goS ?_))
  refine loop_u 5 ?_
  (refine goS ?_ <;> repeat (intro _ <;> refine goS ?_))
  repeat' ((refine bnS (fun hr h => ?_) (fun hr h => ?_) <;> first | (exfalso; omega) | ((refine goS ?_ <;> repeat (intro _ <;> refine goS ?_)))))
  refine ACalls.ev Tryz.f110 mx Tryz.func110 (by kernel_rfl) rfl ?_ <;> (refine goS ?_ <;> repeat (intro _ <;> refine goS ?_))
  refine loop_st (S := Nat) (fun k => [(6, .hsl 7 1 0 8 8 false), (7, I 8), (8, I k)])
    (fun k => ⟨8, [(7, some ⟨1, [cl2 123 0, cl2 124 0, cl2 125 0, cl2 127 0, cl2 128 2, cl2 130 2, cl2 128 5, cl2 130 5], none⟩), (2, some ⟨6, [(TaskSpec.fv (s.tasks.getD 0 default)).map FV.up], none⟩), (5, some ⟨6, [(TaskSpec.fv (s.tasks.getD 1 default)).map FV.up], none⟩), (0, some ⟨6, [s.fv.map FV.up], none⟩)]⟩)
    (fun k => k ≤ 8 ∧ ∀ j, j < k → spF s j) (fun k => 8 - k) 0
    (Wk.cut rfl ⟨⟨rfl, rfl⟩, ⟨rfl, rfl⟩, ⟨rfl, rfl⟩, trivial⟩ ⟨⟨rfl, rfl, fun row hr => by simp [cl2] at hr; rcases hr with rfl | rfl | rfl | rfl | rfl | rfl | rfl | rfl <;> rfl, nofun⟩, ⟨rfl, rfl, row1 rfl, nofun⟩, ⟨rfl, rfl, row1 rfl, nofun⟩, ⟨rfl, rfl, row1 rfl, nofun⟩, trivial⟩) ⟨Nat.zero_le _, fun j hj => absurd hj (Nat.not_lt_zero j)⟩ ?_
  rintro k ⟨hk, hc⟩
  have hk' : k = 0 ∨ k = 1 ∨ k = 2 ∨ k = 3 ∨ k = 4 ∨ k = 5 ∨ k = 6 ∨ k = 7 ∨ k = 8 := by omega
  clear w1 w2 w3 w4 w5
  rcases hk' with rfl | rfl | rfl | rfl | rfl | rfl | rfl | rfl | rfl
  all_goals (refine goS ?_ <;> repeat (intro _ <;> refine goS ?_))
  all_goals (repeat' (first
    | ((refine bnS (fun hr h => ?_) (fun hr h => ?_) <;> first | (exact False.elim h) | ((refine goS ?_ <;> repeat (intro _ <;> refine goS ?_)))))
    | ((first | refine Pure.call (specIn_p _ _ _) ?_ | refine HCall.pure (specIn_p _ _ _) ?_) <;> (refine goS ?_ <;> repeat (intro _ <;> refine goS ?_)))
    | ((first | refine Pure.call (resCheck_p _) ?_ | refine HCall.pure (resCheck_p _) ?_) <;> (refine goS ?_ <;> repeat (intro _ <;> refine goS ?_)))
    | ((first | refine Pure.call (portsCheck_p _) ?_ | refine HCall.pure (portsCheck_p _) ?_) <;> (refine goS ?_ <;> repeat (intro _ <;> refine goS ?_)))
    | ((first | refine Pure.call (delay_p _) ?_ | refine HCall.pure (delay_p _) ?_) <;> (refine goS ?_ <;> repeat (intro _ <;> refine goS ?_)))
    | (refine ACalls.ev Tryz.f123 mx Tryz.func123 (by kernel_rfl) rfl ?_ <;> (refine goS ?_ <;> repeat (intro _ <;> refine goS ?_)))
    | (refine ACalls.ev Tryz.f124 mx Tryz.func124 (by kernel_rfl) rfl ?_ <;> (refine goS ?_ <;> repeat (intro _ <;> refine goS ?_)))
    | (refine ACalls.ev Tryz.f125 mx Tryz.func125 (by kernel_rfl) rfl ?_ <;> (refine goS ?_ <;> repeat (intro _ <;> refine goS ?_)))
    | (refine ACalls.ev Tryz.f127 mx Tryz.func127 (by kernel_rfl) rfl ?_ <;> (refine goS ?_ <;> repeat (intro _ <;> refine goS ?_)))
    | (refine ACalls.ev Tryz.f128 mx Tryz.func128 (by kernel_rfl) rfl ?_ <;> (refine goS ?_ <;> repeat (intro _ <;> refine goS ?_)))
    | (refine ACalls.ev Tryz.f130 mx Tryz.func130 (by kernel_rfl) rfl ?_ <;> (refine goS ?_ <;> repeat (intro _ <;> refine goS ?_)))
    | (refine ret_now _ ?_ <;> (refine goS ?_ <;> repeat (intro _ <;> refine goS ?_)))))
  all_goals first
    | exact ⟨_, by decide, ⟨by decide, spF_step hc (by have h2 := of_z h; exact h2)⟩, Wk.sub ⟨rfl, rfl, rfl, trivial⟩⟩
    | exact ⟨_, by decide, ⟨by decide, spF_step hc h⟩, Wk.sub ⟨rfl, rfl, rfl, trivial⟩⟩
    | exact ⟨_, by decide, ⟨by decide, spF_step hc ⟨by simp_all, by omega⟩⟩, Wk.sub ⟨rfl, rfl, rfl, trivial⟩⟩
    | exact leaf_0 rfl h
    | exact leaf_1 hc rfl h
    | exact leaf_2 hc h
    | exact leaf_3a hc (by simp_all)
    | exact leaf_3b hc (by omega)
    | exact leaf_ts 0 hc (by decide) (by omega) (fun ho => h (eUn_y ho.1)) h
    | exact leaf_ts 0 hc (by decide) (by omega) (fun ho => h (eUn_y ho.2)) h
    | exact leaf_ts 1 hc (by decide) (by omega) (fun ho => h (eUn_y ho.1)) h
    | exact leaf_ts 1 hc (by decide) (by omega) (fun ho => h (eUn_y ho.2)) h
    | exact leaf_ts 2 hc (by decide) (by omega) (fun ho => h (eUn_y ho.1)) h
    | exact leaf_ts 2 hc (by decide) (by omega) (fun ho => h (eUn_y ho.2)) h
    | exact leaf_ts 3 hc (by decide) (by omega) (fun ho => h (eUn_y ho.1)) h
    | exact leaf_ts 3 hc (by decide) (by omega) (fun ho => h (eUn_y ho.2)) h
    | exact leaf_end (fun j hj => hc j (by omega)) (by omega)
    | (have h3 := (hc 3 (by decide)).2; exact leaf_end (fun j hj => hc j (by omega)) (by omega))
    | (have h3 := (hc 3 (by decide)).1; exfalso; omega)

set_option maxHeartbeats 4000000 in
theorem specCheck_3 (s : Spec) (hl : s.tasks.length = 3) : Pure Tryz.prog 65 [s.av] (I (specE s)) := by
  obtain ⟨w1, w2, w3, w4, w5⟩ := wu
  refine Pure.ev Tryz.f65 mx Tryz.func65 (by kernel_rfl) rfl rfl rfl ?_ <;> (refine goS ?_ <;> repeat (intro _ <;> refine goS ?_))
  refine loop_u 5 ?_
  (refine goS ?_ <;> repeat (intro _ <;> refine goS ?_))
  repeat' ((refine bnS (fun hr h => ?_) (fun hr h => ?_) <;> first | (exfalso; omega) | ((refine goS ?_ <;> repeat (intro _ <;> refine goS ?_)))))
  refine ACalls.ev Tryz.f110 mx Tryz.func110 (by kernel_rfl) rfl ?_ <;> (refine goS ?_ <;> repeat (intro _ <;> refine goS ?_))
  refine loop_st (S := Nat) (fun k => [(6, .hsl 10 1 0 10 10 false), (7, I 10), (8, I k)])
    (fun k => ⟨11, [(10, some ⟨1, [cl2 123 0, cl2 124 0, cl2 125 0, cl2 127 0, cl2 128 2, cl2 130 2, cl2 128 5, cl2 130 5, cl2 128 8, cl2 130 8], none⟩), (2, some ⟨6, [(TaskSpec.fv (s.tasks.getD 0 default)).map FV.up], none⟩), (5, some ⟨6, [(TaskSpec.fv (s.tasks.getD 1 default)).map FV.up], none⟩), (8, some ⟨6, [(TaskSpec.fv (s.tasks.getD 2 default)).map FV.up], none⟩), (0, some ⟨6, [s.fv.map FV.up], none⟩)]⟩)
    (fun k => k ≤ 10 ∧ ∀ j, j < k → spF s j) (fun k => 10 - k) 0
    (Wk.cut rfl ⟨⟨rfl, rfl⟩, ⟨rfl, rfl⟩, ⟨rfl, rfl⟩, trivial⟩ ⟨⟨rfl, rfl, fun row hr => by simp [cl2] at hr; rcases hr with rfl | rfl | rfl | rfl | rfl | rfl | rfl | rfl | rfl | rfl <;> rfl, nofun⟩, ⟨rfl, rfl, row1 rfl, nofun⟩, ⟨rfl, rfl, row1 rfl, nofun⟩, ⟨rfl, rfl, row1 rfl, nofun⟩, ⟨rfl, rfl, row1 rfl, nofun⟩, trivial⟩) ⟨Nat.zero_le _, fun j hj => absurd hj (Nat.not_lt_zero j)⟩ ?_
  rintro k ⟨hk, hc⟩
  have hk' : k = 0 ∨ k = 1 ∨ k = 2 ∨ k = 3 ∨ k = 4 ∨ k = 5 ∨ k = 6 ∨ k = 7 ∨ k = 8 ∨ k = 9 ∨ k = 10 := by omega
  clear w1 w2 w3 w4 w5
  rcases hk' with rfl | rfl | rfl | rfl | rfl | rfl | rfl | rfl | rfl | rfl | rfl
  all_goals (refine goS ?_ <;> repeat (intro _ <;> refine goS ?_))
  all_goals (repeat' (first
    | ((refine bnS (fun hr h => ?_) (fun hr h => ?_) <;> first | (exact False.elim h) | ((refine goS ?_ <;> repeat (intro _ <;> refine goS ?_)))))
    | ((first | refine Pure.call (specIn_p _ _ _) ?_ | refine HCall.pure (specIn_p _ _ _) ?_) <;> (refine goS ?_ <;> repeat (intro _ <;> refine goS ?_)))
    | ((first | refine Pure.call (resCheck_p _) ?_ | refine HCall.pure (resCheck_p _) ?_) <;> (refine goS ?_ <;> repeat (intro _ <;> refine goS ?_)))
    | ((first | refine Pure.call (portsCheck_p _) ?_ | refine HCall.pure (portsCheck_p _) ?_) <;> (refine goS ?_ <;> repeat (intro _ <;> refine goS ?_)))
    | ((first | refine Pure.call (delay_p _) ?_ | refine HCall.pure (delay_p _) ?_) <;> (refine goS ?_ <;> repeat (intro _ <;> refine goS ?_)))
    | (refine ACalls.ev Tryz.f123 mx Tryz.func123 (by kernel_rfl) rfl ?_ <;> (refine goS ?_ <;> repeat (intro _ <;> refine goS ?_)))
    | (refine ACalls.ev Tryz.f124 mx Tryz.func124 (by kernel_rfl) rfl ?_ <;> (refine goS ?_ <;> repeat (intro _ <;> refine goS ?_)))
    | (refine ACalls.ev Tryz.f125 mx Tryz.func125 (by kernel_rfl) rfl ?_ <;> (refine goS ?_ <;> repeat (intro _ <;> refine goS ?_)))
    | (refine ACalls.ev Tryz.f127 mx Tryz.func127 (by kernel_rfl) rfl ?_ <;> (refine goS ?_ <;> repeat (intro _ <;> refine goS ?_)))
    | (refine ACalls.ev Tryz.f128 mx Tryz.func128 (by kernel_rfl) rfl ?_ <;> (refine goS ?_ <;> repeat (intro _ <;> refine goS ?_)))
    | (refine ACalls.ev Tryz.f130 mx Tryz.func130 (by kernel_rfl) rfl ?_ <;> (refine goS ?_ <;> repeat (intro _ <;> refine goS ?_)))
    | (refine ret_now _ ?_ <;> (refine goS ?_ <;> repeat (intro _ <;> refine goS ?_)))))
  all_goals first
    | exact ⟨_, by decide, ⟨by decide, spF_step hc (by have h2 := of_z h; exact h2)⟩, Wk.sub ⟨rfl, rfl, rfl, trivial⟩⟩
    | exact ⟨_, by decide, ⟨by decide, spF_step hc h⟩, Wk.sub ⟨rfl, rfl, rfl, trivial⟩⟩
    | exact ⟨_, by decide, ⟨by decide, spF_step hc ⟨by simp_all, by omega⟩⟩, Wk.sub ⟨rfl, rfl, rfl, trivial⟩⟩
    | exact leaf_0 rfl h
    | exact leaf_1 hc rfl h
    | exact leaf_2 hc h
    | exact leaf_3a hc (by simp_all)
    | exact leaf_3b hc (by omega)
    | exact leaf_ts 0 hc (by decide) (by omega) (fun ho => h (eUn_y ho.1)) h
    | exact leaf_ts 0 hc (by decide) (by omega) (fun ho => h (eUn_y ho.2)) h
    | exact leaf_ts 1 hc (by decide) (by omega) (fun ho => h (eUn_y ho.1)) h
    | exact leaf_ts 1 hc (by decide) (by omega) (fun ho => h (eUn_y ho.2)) h
    | exact leaf_ts 2 hc (by decide) (by omega) (fun ho => h (eUn_y ho.1)) h
    | exact leaf_ts 2 hc (by decide) (by omega) (fun ho => h (eUn_y ho.2)) h
    | exact leaf_ts 3 hc (by decide) (by omega) (fun ho => h (eUn_y ho.1)) h
    | exact leaf_ts 3 hc (by decide) (by omega) (fun ho => h (eUn_y ho.2)) h
    | exact leaf_end (fun j hj => hc j (by omega)) (by omega)
    | (have h3 := (hc 3 (by decide)).2; exact leaf_end (fun j hj => hc j (by omega)) (by omega))
    | (have h3 := (hc 3 (by decide)).1; exfalso; omega)

set_option maxHeartbeats 4000000 in
theorem specCheck_4 (s : Spec) (hl : 4 ≤ s.tasks.length) : Pure Tryz.prog 65 [s.av] (I (specE s)) := by
  obtain ⟨w1, w2, w3, w4, w5⟩ := wu
  refine Pure.ev Tryz.f65 mx Tryz.func65 (by kernel_rfl) rfl rfl rfl ?_ <;> (refine goS ?_ <;> repeat (intro _ <;> refine goS ?_))
  refine loop_u 5 ?_
  (refine goS ?_ <;> repeat (intro _ <;> refine goS ?_))
  repeat' ((refine bnS (fun hr h => ?_) (fun hr h => ?_) <;> first | (exfalso; omega) | ((refine goS ?_ <;> repeat (intro _ <;> refine goS ?_)))))
  refine ACalls.ev Tryz.f110 mx Tryz.func110 (by kernel_rfl) rfl ?_ <;> (refine goS ?_ <;> repeat (intro _ <;> refine goS ?_))
  refine loop_st (S := Nat) (fun k => [(6, .hsl 13 1 0 12 12 false), (7, I 12), (8, I k)])
    (fun k => ⟨14, [(13, some ⟨1, [cl2 123 0, cl2 124 0, cl2 125 0, cl2 127 0, cl2 128 2, cl2 130 2, cl2 128 5, cl2 130 5, cl2 128 8, cl2 130 8, cl2 128 11, cl2 130 11], none⟩), (2, some ⟨6, [(TaskSpec.fv (s.tasks.getD 0 default)).map FV.up], none⟩), (5, some ⟨6, [(TaskSpec.fv (s.tasks.getD 1 default)).map FV.up], none⟩), (8, some ⟨6, [(TaskSpec.fv (s.tasks.getD 2 default)).map FV.up], none⟩), (11, some ⟨6, [(TaskSpec.fv (s.tasks.getD 3 default)).map FV.up], none⟩), (0, some ⟨6, [s.fv.map FV.up], none⟩)]⟩)
    (fun k => k ≤ 12 ∧ ∀ j, j < k → spF s j) (fun k => 12 - k) 0
    (Wk.cut rfl ⟨⟨rfl, rfl⟩, ⟨rfl, rfl⟩, ⟨rfl, rfl⟩, trivial⟩ ⟨⟨rfl, rfl, fun row hr => by simp [cl2] at hr; rcases hr with rfl | rfl | rfl | rfl | rfl | rfl | rfl | rfl | rfl | rfl | rfl | rfl <;> rfl, nofun⟩, ⟨rfl, rfl, row1 rfl, nofun⟩, ⟨rfl, rfl, row1 rfl, nofun⟩, ⟨rfl, rfl, row1 rfl, nofun⟩, ⟨rfl, rfl, row1 rfl, nofun⟩, ⟨rfl, rfl, row1 rfl, nofun⟩, trivial⟩) ⟨Nat.zero_le _, fun j hj => absurd hj (Nat.not_lt_zero j)⟩ ?_
  rintro k ⟨hk, hc⟩
  have hk' : k = 0 ∨ k = 1 ∨ k = 2 ∨ k = 3 ∨ k = 4 ∨ k = 5 ∨ k = 6 ∨ k = 7 ∨ k = 8 ∨ k = 9 ∨ k = 10 ∨ k = 11 ∨ k = 12 := by omega
  clear w1 w2 w3 w4 w5
  rcases hk' with rfl | rfl | rfl | rfl | rfl | rfl | rfl | rfl | rfl | rfl | rfl | rfl | rfl
  all_goals (refine goS ?_ <;> repeat (intro _ <;> refine goS ?_))
  all_goals (repeat' (first
    | ((refine bnS (fun hr h => ?_) (fun hr h => ?_) <;> first | (exact False.elim h) | ((refine goS ?_ <;> repeat (intro _ <;> refine goS ?_)))))
    | ((first | refine Pure.call (specIn_p _ _ _) ?_ | refine HCall.pure (specIn_p _ _ _) ?_) <;> (refine goS ?_ <;> repeat (intro _ <;> refine goS ?_)))
    | ((first | refine Pure.call (resCheck_p _) ?_ | refine HCall.pure (resCheck_p _) ?_) <;> (refine goS ?_ <;> repeat (intro _ <;> refine goS ?_)))
    | ((first | refine Pure.call (portsCheck_p _) ?_ | refine HCall.pure (portsCheck_p _) ?_) <;> (refine goS ?_ <;> repeat (intro _ <;> refine goS ?_)))
    | ((first | refine Pure.call (delay_p _) ?_ | refine HCall.pure (delay_p _) ?_) <;> (refine goS ?_ <;> repeat (intro _ <;> refine goS ?_)))
    | (refine ACalls.ev Tryz.f123 mx Tryz.func123 (by kernel_rfl) rfl ?_ <;> (refine goS ?_ <;> repeat (intro _ <;> refine goS ?_)))
    | (refine ACalls.ev Tryz.f124 mx Tryz.func124 (by kernel_rfl) rfl ?_ <;> (refine goS ?_ <;> repeat (intro _ <;> refine goS ?_)))
    | (refine ACalls.ev Tryz.f125 mx Tryz.func125 (by kernel_rfl) rfl ?_ <;> (refine goS ?_ <;> repeat (intro _ <;> refine goS ?_)))
    | (refine ACalls.ev Tryz.f127 mx Tryz.func127 (by kernel_rfl) rfl ?_ <;> (refine goS ?_ <;> repeat (intro _ <;> refine goS ?_)))
    | (refine ACalls.ev Tryz.f128 mx Tryz.func128 (by kernel_rfl) rfl ?_ <;> (refine goS ?_ <;> repeat (intro _ <;> refine goS ?_)))
    | (refine ACalls.ev Tryz.f130 mx Tryz.func130 (by kernel_rfl) rfl ?_ <;> (refine goS ?_ <;> repeat (intro _ <;> refine goS ?_)))
    | (refine ret_now _ ?_ <;> (refine goS ?_ <;> repeat (intro _ <;> refine goS ?_)))))
  all_goals first
    | exact ⟨_, by decide, ⟨by decide, spF_step hc (by have h2 := of_z h; exact h2)⟩, Wk.sub ⟨rfl, rfl, rfl, trivial⟩⟩
    | exact ⟨_, by decide, ⟨by decide, spF_step hc h⟩, Wk.sub ⟨rfl, rfl, rfl, trivial⟩⟩
    | exact ⟨_, by decide, ⟨by decide, spF_step hc ⟨by simp_all, by omega⟩⟩, Wk.sub ⟨rfl, rfl, rfl, trivial⟩⟩
    | exact leaf_0 rfl h
    | exact leaf_1 hc rfl h
    | exact leaf_2 hc h
    | exact leaf_3a hc (by simp_all)
    | exact leaf_3b hc (by omega)
    | exact leaf_ts 0 hc (by decide) (by omega) (fun ho => h (eUn_y ho.1)) h
    | exact leaf_ts 0 hc (by decide) (by omega) (fun ho => h (eUn_y ho.2)) h
    | exact leaf_ts 1 hc (by decide) (by omega) (fun ho => h (eUn_y ho.1)) h
    | exact leaf_ts 1 hc (by decide) (by omega) (fun ho => h (eUn_y ho.2)) h
    | exact leaf_ts 2 hc (by decide) (by omega) (fun ho => h (eUn_y ho.1)) h
    | exact leaf_ts 2 hc (by decide) (by omega) (fun ho => h (eUn_y ho.2)) h
    | exact leaf_ts 3 hc (by decide) (by omega) (fun ho => h (eUn_y ho.1)) h
    | exact leaf_ts 3 hc (by decide) (by omega) (fun ho => h (eUn_y ho.2)) h
    | exact leaf_end (fun j hj => hc j (by omega)) (by omega)
    | (have h3 := (hc 3 (by decide)).2; exact leaf_end (fun j hj => hc j (by omega)) (by omega))
    | (have h3 := (hc 3 (by decide)).1; exfalso; omega)

theorem specCheck_p (s : Spec) : Pure Tryz.prog 65 [s.av] (I (specE s)) := by
  have h : s.tasks.length = 0 ∨ s.tasks.length = 1 ∨ s.tasks.length = 2 ∨ s.tasks.length = 3 ∨ 4 ≤ s.tasks.length := by omega
  rcases h with h | h | h | h | h
  · exact specCheck_0 s h
  · exact specCheck_1 s h
  · exact specCheck_2 s h
  · exact specCheck_3 s h
  · exact specCheck_4 s h
end Go.Proofs.YtdblhmpcilihnaaGreat
