/- PlanApplies, walked. -/
import Derived.Test.YtdblhmpcilihnaaGreatK3
import Derived.Test.YtdblhmpcilihnaaGreatNX
namespace Go.Proofs.YtdblhmpcilihnaaGreat
open Go.RowKit E
set_option maxRecDepth 100000
set_option linter.unusedVariables false
set_option linter.unusedSimpArgs false
theorem liveG_r (st u now : Int) (f sk te ki : Bool) : 0 ≤ liveG st u now f sk te ki ∧ liveG st u now f sk te ki ≤ 6 := by
  unfold liveG
  repeat' split
  all_goals omega
theorem nextG_r (t : Task) (k : Look) : 0 ≤ (nextG t k).do_ ∧ (nextG t k).do_ ≤ 6 := by
  unfold nextG
  have := liveG_r t.state t.until_ k.now k.fenced k.sick k.proc.term k.proc.kill
  repeat' split
  all_goals (dsimp only; omega)
theorem rkE_0 {s : State} {a k : Int} {x : Step} (h : thereB s a k = true) (hx : x.do_ ≤ 6) : rkE s a k x = 0 := by
  unfold rkE
  rw [if_neg (by rw [h]; decide), if_neg (by omega)]
theorem next_ok {t : Task} {K : Look} (h : errT t = 0) (h0 : 0 ≤ t.state) : Pure Tryz.prog 45 [t.av, K.av] (.tup [(nextG t K).av, I 0]) := by
  have hN := planNext_p t K h0
  rw [next_same t K h0, if_pos h, err_ok ((ok_good t).2 (errT_0.1 h))] at hN
  exact hN
theorem rec_ok {s : State} {a k : Int} {t : Task} {K K2 : Look} (h : thereB s a k = true) : Pure Tryz.prog 46 [s.av, I a, I k, (nextG t K).av, K2.av] (.tup [(recR s a k (nextG t K) K2).av, B (recB s a k (nextG t K)), I 0]) := by
  have hR := record_p s a k (nextG t K) K2 (nextG_r t K).1
  rw [rkE_0 h (nextG_r t K).2] at hR
  exact hR
set_option maxHeartbeats 4000000 in
theorem applies_p (c : Config) (s : State) (a k : Int) (sick : Bool) (now : Int) (l : List Proc) (hw : s.wfS) : Pure Tryz.prog 11 [c.av, s.av, .agg [I a, I k], B sick, I now, slPr l] (B true) := by
  have hAw := awake31_p
  have hF := few_p s
  cases hf : fewB s <;> rw [hf] at hF
  · refine Pure.ev Tryz.f11 mx Tryz.func11 (by kernel_rfl) rfl rfl rfl ?_ <;> (refine goS ?_ <;> repeat (intro _ <;> refine goS ?_))
    (first | refine Pure.call (hF) ?_ | refine HCall.pure (hF) ?_) <;> (refine goS ?_ <;> repeat (intro _ <;> refine goS ?_))
    exact ret_now _ rfl
  have hfw := fewB_few hf
  have hC := refCheck_p c s hfw hw
  by_cases hE : stE c s = 0
  case neg =>
    refine Pure.ev Tryz.f11 mx Tryz.func11 (by kernel_rfl) rfl rfl rfl ?_ <;> (refine goS ?_ <;> repeat (intro _ <;> refine goS ?_))
    (first | refine Pure.call (hF) ?_ | refine HCall.pure (hF) ?_) <;> (refine goS ?_ <;> repeat (intro _ <;> refine goS ?_))
    (first | refine Pure.call (hC) ?_ | refine HCall.pure (hC) ?_) <;> (refine goS ?_ <;> repeat (intro _ <;> refine goS ?_))
    repeat' ((refine bnS (fun hr h => ?_) (fun hr h => ?_) <;> first | (exfalso; omega) | ((refine goS ?_ <;> repeat (intro _ <;> refine goS ?_)))))
    all_goals exact ret_now _ rfl
  rw [hE] at hC
  by_cases hnl : (0 ≤ now ∧ now ≤ 549755813888) ∧ l.length ≤ 30
  case neg =>
    refine Pure.ev Tryz.f11 mx Tryz.func11 (by kernel_rfl) rfl rfl rfl ?_ <;> (refine goS ?_ <;> repeat (intro _ <;> refine goS ?_))
    (first | refine Pure.call (hF) ?_ | refine HCall.pure (hF) ?_) <;> (refine goS ?_ <;> repeat (intro _ <;> refine goS ?_))
    (first | refine Pure.call (hC) ?_ | refine HCall.pure (hC) ?_) <;> (refine goS ?_ <;> repeat (intro _ <;> refine goS ?_))
    repeat' ((refine bnS (fun hr h => ?_) (fun hr h => ?_) <;> first | (exfalso; omega) | ((refine goS ?_ <;> repeat (intro _ <;> refine goS ?_)))))
    all_goals exact ret_now _ rfl
  obtain ⟨hnow, hl⟩ := hnl
  have hT : ∀ b, thereB s a k = b → decide ((0 ≤ a ∧ a < s.allocs.length) ∧ 0 ≤ k ∧ k < (s.allocs.getD a.toNat default).tasks.length) = b := fun b h => h
  cases hth : thereB s a k
  case false =>
    have hT' := of_decide_eq_false (hT _ hth)
    refine Pure.ev Tryz.f11 mx Tryz.func11 (by kernel_rfl) rfl rfl rfl ?_ <;> (refine goS ?_ <;> repeat (intro _ <;> refine goS ?_))
    (first | refine Pure.call (hF) ?_ | refine HCall.pure (hF) ?_) <;> (refine goS ?_ <;> repeat (intro _ <;> refine goS ?_))
    (first | refine Pure.call (hC) ?_ | refine HCall.pure (hC) ?_) <;> (refine goS ?_ <;> repeat (intro _ <;> refine goS ?_))
    repeat' ((refine bnS (fun hr h => ?_) (fun hr h => ?_) <;> first | (exfalso; omega) | ((refine goS ?_ <;> repeat (intro _ <;> refine goS ?_)))))
    all_goals exact ret_now _ rfl
  have hT' := of_decide_eq_true (hT _ hth)
  clear hT
  obtain ⟨⟨ha1, ha2⟩, hk1, hk2⟩ := hT'
  have hnow2 : inR now 0 1099511627776 := ⟨by omega, by omega⟩
  have hLo := planLook_ok c s a k sick now l hfw hw hE hth hnow2
  have hlf := look_facts (ownT s a k) l (lookK c s sick now)
  have hKn : (lookL (ownT s a k) (lookK c s sick now) l).now = now := hlf.1
  have hKh : (lookL (ownT s a k) (lookK c s sick now) l).has = true → (lookL (ownT s a k) (lookK c s sick now) l).proc ∈ l := fun h => by
    rcases hlf.2.2.2 h with ⟨h1, h2⟩ | h1
    · cases h1
    · exact h1
  generalize lookL (ownT s a k) (lookK c s sick now) l = K at hLo hlf hKn hKh
  clear hlf
  have herr : errT ((s.allocs.getD a.toNat default).tasks.getD k.toNat default) = 0 := ((stE_iff.1 hE).2.each _ (mem_at (by omega))).2.2.2.2.2.2 k.toNat (by omega) |>.1
  have hNx := next_ok (K := K) herr (hw _ _)
  have hRk := rec_ok (s := s) (t := (s.allocs.getD a.toNat default).tasks.getD k.toNat default) (K := K) (K2 := K) hth
  have hPl := plan_ok (c := c) (K := K) ⟨hE, hw⟩ hth hnow2
  have hstl : ((s.allocs.getD a.toNat default).tasks.getD k.toNat default).starts.length ≤ 20 := (hfw.2 a.toNat).2.2.2 k.toNat
  refine Pure.ev Tryz.f11 mx Tryz.func11 (by kernel_rfl) rfl rfl rfl ?_ <;> (refine goS ?_ <;> repeat (intro _ <;> refine goS ?_))
  (first | refine Pure.call (hF) ?_ | refine HCall.pure (hF) ?_) <;> (refine goS ?_ <;> repeat (intro _ <;> refine goS ?_))
  (first | refine Pure.call (hC) ?_ | refine HCall.pure (hC) ?_) <;> (refine goS ?_ <;> repeat (intro _ <;> refine goS ?_))
  repeat' ((refine bnS (fun hr h => ?_) (fun hr h => ?_) <;> first | (exfalso; omega) | ((refine goS ?_ <;> repeat (intro _ <;> refine goS ?_)))))
  generalize htt : (s.allocs.getD a.toNat default).tasks.getD k.toNat default = t at *
  refine loop_st (S := Nat) (fun z => [(3, B sick), (4, I now), (5, slPr l), (6, .hptr 0 11 0 0), (7, .hptr 1 5 0 0), (8, .hptr 2 2 0 0), (13, .hptr 3 8 0 0), (14, I z)])
    (fun z => ⟨4, [(3, some ⟨8, [t.fv.map FV.up], none⟩), (2, some ⟨2, [[I a, I k]], none⟩), (1, some ⟨5, [s.fv.map FV.up], none⟩), (0, some ⟨11, [c.fv.map FV.up], none⟩)]⟩)
    (fun z => z ≤ t.starts.length ∧ ∀ j, j < z → t.starts.getD j 0 ≤ now) (fun z => t.starts.length - z) 0
    (Wk.cut rfl ⟨⟨rfl, rfl⟩, ⟨rfl, rfl⟩, ⟨rfl, rfl⟩, ⟨rfl, rfl⟩, ⟨rfl, rfl⟩, ⟨rfl, rfl⟩, ⟨rfl, rfl⟩, ⟨rfl, rfl⟩, trivial⟩ ⟨⟨by subst htt; rfl, rfl, row1 rfl, nofun⟩, ⟨rfl, rfl, row1 rfl, nofun⟩, ⟨rfl, rfl, row1 rfl, nofun⟩, ⟨rfl, rfl, row1 rfl, nofun⟩, trivial⟩) ⟨Nat.zero_le _, fun j hj => absurd hj (Nat.not_lt_zero j)⟩ ?_
  rintro z ⟨hz, hzs⟩
  have hw1 : Go.IntKind.i64.wrap ((z : Int) + 1) = ((z + 1 : Nat) : Int) := wrapS (show z < 9223372036854775807 by omega)
  (refine goS ?_ <;> repeat (intro _ <;> refine goS ?_))
  (refine bnS (fun hr h => ?_) (fun hr h => ?_) <;> first | (exact False.elim h) | ((refine goS ?_ <;> repeat (intro _ <;> refine goS ?_))))
  · have hz2 : z < t.starts.length := h
    (refine bnS (fun hr h => ?_) (fun hr h => ?_) <;> first | (exact False.elim h) | ((refine goS ?_ <;> repeat (intro _ <;> refine goS ?_))))
    · exact ret_now _ rfl
    · exact ⟨z + 1, by omega, ⟨by omega, fun j hj => by
        rcases Nat.lt_succ_iff_lt_or_eq.1 hj with h1 | rfl
        · exact hzs j h1
        · simpa using h⟩, Wk.cut rfl ⟨⟨rfl, rfl⟩, ⟨rfl, rfl⟩, ⟨rfl, rfl⟩, ⟨rfl, rfl⟩, ⟨rfl, rfl⟩, ⟨rfl, rfl⟩, ⟨rfl, rfl⟩, ⟨congrArg I hw1, rfl⟩, trivial⟩ ⟨⟨rfl, rfl, row1 rfl, nofun⟩, ⟨rfl, rfl, row1 rfl, nofun⟩, ⟨rfl, rfl, row1 rfl, nofun⟩, ⟨rfl, rfl, row1 rfl, nofun⟩, trivial⟩⟩
  have hst : ∀ x ∈ t.starts, x ≤ now := forall_getD.1 fun j hj => hzs j (by omega)
  replace hPl := hPl hst
  clear hzs hw1 hst
  refine loop_st (S := Nat) (fun z => [(3, B sick), (4, I now), (5, slPr l), (6, .hptr 0 11 0 0), (7, .hptr 1 5 0 0), (8, .hptr 2 2 0 0), (13, .hptr 3 8 0 0), (15, I z)])
    (fun z => ⟨4, [(3, some ⟨8, [t.fv.map FV.up], none⟩), (2, some ⟨2, [[I a, I k]], none⟩), (1, some ⟨5, [s.fv.map FV.up], none⟩), (0, some ⟨11, [c.fv.map FV.up], none⟩)]⟩)
    (fun z => z ≤ l.length ∧ ∀ j, j < z → inR (l.getD j default).pid 0 mT ∧ inR (l.getD j default).nonce 0 mT) (fun z => l.length - z) 0
    (Wk.cut rfl ⟨⟨rfl, rfl⟩, ⟨rfl, rfl⟩, ⟨rfl, rfl⟩, ⟨rfl, rfl⟩, ⟨rfl, rfl⟩, ⟨rfl, rfl⟩, ⟨rfl, rfl⟩, ⟨rfl, rfl⟩, trivial⟩ ⟨⟨rfl, rfl, row1 rfl, nofun⟩, ⟨rfl, rfl, row1 rfl, nofun⟩, ⟨rfl, rfl, row1 rfl, nofun⟩, ⟨rfl, rfl, row1 rfl, nofun⟩, trivial⟩) ⟨Nat.zero_le _, fun j hj => absurd hj (Nat.not_lt_zero j)⟩ ?_
  clear hz
  rintro z ⟨hz, hzs⟩
  have hw1 : Go.IntKind.i64.wrap ((z : Int) + 1) = ((z + 1 : Nat) : Int) := wrapS (show z < 9223372036854775807 by omega)
  by_cases hz2 : z < l.length
  · (refine goS ?_ <;> repeat (intro _ <;> refine goS ?_))
    repeat' ((refine bnS (fun hr h => ?_) (fun hr h => ?_) <;> first | (exfalso; omega) | ((refine goS ?_ <;> repeat (intro _ <;> refine goS ?_)))))
    all_goals first
      | exact ret_now _ rfl
      | exact ⟨z + 1, by omega, ⟨by omega, fun j hj => by
          rcases Nat.lt_succ_iff_lt_or_eq.1 hj with h1 | rfl
          · exact hzs j h1
          · unfold inR mT; simp only [toNat_nat] at *; omega⟩, Wk.cut rfl ⟨⟨rfl, rfl⟩, ⟨rfl, rfl⟩, ⟨rfl, rfl⟩, ⟨rfl, rfl⟩, ⟨rfl, rfl⟩, ⟨rfl, rfl⟩, ⟨rfl, rfl⟩, ⟨congrArg I hw1, rfl⟩, trivial⟩ ⟨⟨rfl, rfl, row1 rfl, nofun⟩, ⟨rfl, rfl, row1 rfl, nofun⟩, ⟨rfl, rfl, row1 rfl, nofun⟩, ⟨rfl, rfl, row1 rfl, nofun⟩, trivial⟩⟩
  have hpr : ∀ p ∈ l, inR p.pid 0 mT ∧ inR p.nonce 0 mT := forall_getD.1 fun j hj => hzs j (by omega)
  clear hzs hw1
  by_cases hnx : s.next < mT
  case neg =>
    unfold mT at hnx
    (refine goS ?_ <;> repeat (intro _ <;> refine goS ?_))
    repeat' ((refine bnS (fun hr h => ?_) (fun hr h => ?_) <;> first | (exfalso; omega) | ((refine goS ?_ <;> repeat (intro _ <;> refine goS ?_)))))
    all_goals exact ret_now _ rfl
  replace hPl := hPl hnx hKn fun h _ => hpr _ (hKh h)
  have hnx' : s.next < 1099511627776 := hnx
  have hA := fun h0 => apply_p c s (recR s a k (nextG t K) K) hfw hw h0
  cases hb : recB s a k (nextG t K)
  · rw [hb] at hRk
    clear hPl hA
    (refine goS ?_ <;> repeat (intro _ <;> refine goS ?_))
    repeat' ((refine bnS (fun hr h => ?_) (fun hr h => ?_) <;> first | (exfalso; omega) | ((refine goS ?_ <;> repeat (intro _ <;> refine goS ?_)))))
    (first | refine Pure.call (hLo) ?_ | refine HCall.pure (hLo) ?_) <;> (refine goS ?_ <;> repeat (intro _ <;> refine goS ?_))
    (first | refine Pure.call (hNx) ?_ | refine HCall.pure (hNx) ?_) <;> (refine goS ?_ <;> repeat (intro _ <;> refine goS ?_))
    (first | refine Pure.call (hRk) ?_ | refine HCall.pure (hRk) ?_) <;> (refine goS ?_ <;> repeat (intro _ <;> refine goS ?_))
    repeat' ((refine bnS (fun hr h => ?_) (fun hr h => ?_) <;> first | (exfalso; omega) | ((refine goS ?_ <;> repeat (intro _ <;> refine goS ?_)))))
    (first | refine Pure.call (hAw) ?_ | refine HCall.pure (hAw) ?_) <;> (refine goS ?_ <;> repeat (intro _ <;> refine goS ?_))
    exact ret_now _ rfl
  obtain ⟨z, _, hap⟩ := hPl hb
  have hz0 : (applyF c s (recR s a k (nextG t K) K)).1 = 0 := by rw [hap]
  have hg2 := apply_keeps hw hz0
  have hr0 := (recE_0 (apply_ok hz0).2.1).1.1
  replace hA := hA (by omega)
  generalize applyF c s (recR s a k (nextG t K) K) = y at hz0 hg2 hA
  clear hap hr0
  obtain ⟨e, s2⟩ := y
  dsimp only at hz0 hg2
  subst hz0
  have hS2 := stCheck_p c s2 (good_few hg2.1) hg2.2
  rw [hg2.1] at hS2
  rw [hb] at hRk
  (refine goS ?_ <;> repeat (intro _ <;> refine goS ?_))
  repeat' ((refine bnS (fun hr h => ?_) (fun hr h => ?_) <;> first | (exfalso; omega) | ((refine goS ?_ <;> repeat (intro _ <;> refine goS ?_)))))
  (first | refine Pure.call (hLo) ?_ | refine HCall.pure (hLo) ?_) <;> (refine goS ?_ <;> repeat (intro _ <;> refine goS ?_))
  (first | refine Pure.call (hNx) ?_ | refine HCall.pure (hNx) ?_) <;> (refine goS ?_ <;> repeat (intro _ <;> refine goS ?_))
  (first | refine Pure.call (hRk) ?_ | refine HCall.pure (hRk) ?_) <;> (refine goS ?_ <;> repeat (intro _ <;> refine goS ?_))
  repeat' ((refine bnS (fun hr h => ?_) (fun hr h => ?_) <;> first | (exfalso; omega) | ((refine goS ?_ <;> repeat (intro _ <;> refine goS ?_)))))
  (first | refine Pure.call (hA) ?_ | refine HCall.pure (hA) ?_) <;> (refine goS ?_ <;> repeat (intro _ <;> refine goS ?_))
  (first | refine Pure.call (hS2) ?_ | refine HCall.pure (hS2) ?_) <;> (refine goS ?_ <;> repeat (intro _ <;> refine goS ?_))
  (first | refine Pure.call (hAw) ?_ | refine HCall.pure (hAw) ?_) <;> (refine goS ?_ <;> repeat (intro _ <;> refine goS ?_))
  exact ret_now _ rfl
theorem okWide_array {P : Program} {w : World} {r : Reach} {base : Nat} {t e : TypeId} {n : Nat} {v : Value} (ht : P.underlying t = some (.array n e)) (h : Value.okWide P w r base t v) : ∃ cs, v = .agg cs ∧ cs.size = P.cellsOf t := by
  simp only [Value.okWide, ht] at h
  obtain ⟨cs, h1, h2, _⟩ := h
  exact ⟨cs, h1, h2⟩
end Go.Proofs.YtdblhmpcilihnaaGreat
