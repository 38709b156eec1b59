/- PlanNexts by the engine. -/
import Derived.Test.YtajpldeffhagaaaSame2
namespace Go.Proofs.Ytajpldeffhagaaa
open Go.RowKit E
set_option maxRecDepth 100000
set_option linter.unusedVariables false
set_option linter.unusedSimpArgs false
theorem okWide_array {P : Program} {w : World} {r : Reach} {base : Nat} {t e : TypeId} {n : Nat} {v : Value} (ht : P.underlying t = some (.array n e)) (h : Value.okWide P w r base t v) : ∃ cs, v = .agg cs ∧ cs.size = P.cellsOf t := by
  simp only [Value.okWide, ht] at h
  obtain ⟨cs, h1, h2, _⟩ := h
  exact ⟨cs, h1, h2⟩
theorem pure_nz {P : Program} {g : FuncId} {args args' : List AV} {r : AV} (h : E.Pure P g args r) (hf : freeL args' = true) (hz : FzL (NzR 4) args' args) : E.Pure P g args' r := by
  obtain ⟨hl, hz⟩ := FzL_get hz
  exact ⟨⟨h.run.ok, fun σ F w vs hw hr => h.run.run σ F w vs hw ⟨hr.1.trans hl, fun i x hx => by obtain ⟨a, ha, hab⟩ := hz i x hx; exact AR.nz 4 a x _ hab (hr.2 i a ha)⟩⟩, hf, h.fr⟩
theorem awake_p : Pure Try.prog 14 [] (B true) := by
  have hN := planNext_p ⟨0, 0, 0, 0, 0, 0, 0, []⟩ ⟨4, false, false, false, false, ⟨0, 0, ⟨0, 0, 0⟩, false, false, false, 0⟩, false⟩ (Int.le_refl _)
  have e1 : nextF ⟨0, 0, 0, 0, 0, 0, 0, []⟩ ⟨4, false, false, false, false, ⟨0, 0, ⟨0, 0, 0⟩, false, false, false, 0⟩, false⟩ = ⟨1, 0⟩ := by kernel_rfl
  have e2 : Task.err ⟨0, 0, 0, 0, 0, 0, 0, []⟩ = 0 := by decide +kernel
  rw [e1, e2] at hN
  refine Pure.ev Try.f14 mx Try.func14 (by kernel_rfl) rfl rfl rfl ?_ <;> (conv => whnf) <;> repeat (first | (refine And.intro trivial ?_ <;> (conv => whnf)) | (refine And.intro (And.intro (by omega) (by omega)) ?_ <;> (conv => whnf)) | (refine And.intro (by omega) ?_ <;> (conv => whnf)) | (intro _ <;> (conv => whnf)) | (refine And.intro rfl ?_ <;> (conv => whnf)))
  refine Pure.call (pure_nz hN rfl ?_) ?_
  · repeat' (first | exact rfl | exact trivial | (refine And.intro ?_ ?_) | (conv => whnf))
  (conv => whnf) <;> repeat (first | (refine And.intro trivial ?_ <;> (conv => whnf)) | (refine And.intro (And.intro (by omega) (by omega)) ?_ <;> (conv => whnf)) | (refine And.intro (by omega) ?_ <;> (conv => whnf)) | (intro _ <;> (conv => whnf)) | (refine And.intro rfl ?_ <;> (conv => whnf)))
  (rw [evN_cmp]; rotate_left 1; (focus kernel_rfl)) <;> (conv => whnf) <;> repeat (first | (refine And.intro trivial ?_ <;> (conv => whnf)) | (refine And.intro (And.intro (by omega) (by omega)) ?_ <;> (conv => whnf)) | (refine And.intro (by omega) ?_ <;> (conv => whnf)) | (intro _ <;> (conv => whnf)) | (refine And.intro rfl ?_ <;> (conv => whnf)))
  exact ret_now _ rfl
theorem liveG_nn (st u now : Int) (f sk te ki : Bool) : 0 ≤ liveG st u now f sk te ki := by
  unfold liveG
  cases f <;> cases sk <;> cases te <;> cases ki <;> simp <;> (repeat' split) <;> omega
theorem ite_nn {p : Prop} [Decidable p] {x y : Step} (h : 0 ≤ x.do_) (h' : 0 ≤ y.do_) : 0 ≤ (if p then x else y).do_ := by split <;> assumption
theorem ite_nni {p : Prop} [Decidable p] {x y : Int} (h : 0 ≤ x) (h' : 0 ≤ y) : 0 ≤ (if p then x else y) := by split <;> assumption
theorem nextG_nn (t : Task) (k : Look) : 0 ≤ (nextG t k).do_ := by
  unfold nextG
  refine ite_nn (ite_nni (by decide) (by decide)) (ite_nn (ite_nni (by decide) (ite_nni (by decide) (by decide))) (ite_nn (by decide) (ite_nn (by decide) (ite_nn (show (0 : Int) ≤ 3 by decide) (liveG_nn _ _ _ _ _ _ _)))))
set_option maxHeartbeats 4000000 in
theorem law_p (t : Task) (k : Look) (s : State) (a b : Int) (x : Step) (h0 : 0 ≤ t.state) (hx : 0 ≤ x.do_) :
    Pure Try.prog 3 [t.av, k.av, s.av, .agg [I a, I b], x.av] (B true) := by
  have hN := planNext_p t k h0
  have hR := refNext_p t k h0
  rw [next_same t k h0, err_same t] at hN
  have hn : 0 ≤ (if errT t = 0 then nextG t k else ⟨0, 0⟩ : Step).do_ := by
    split
    · exact nextG_nn t k
    · exact Int.le_refl _
  generalize (if errT t = 0 then nextG t k else ⟨0, 0⟩ : Step) = n at hN hR hn
  generalize errT t = e at hN hR
  have hF := few_p s
  by_cases hl : 20 < t.starts.length
  · refine Pure.ev Try.f3 mx Try.func3 (by kernel_rfl) rfl rfl rfl ?_ <;> (conv => whnf) <;> repeat (first | (refine And.intro trivial ?_ <;> (conv => whnf)) | (refine And.intro (And.intro (by omega) (by omega)) ?_ <;> (conv => whnf)) | (refine And.intro (by omega) ?_ <;> (conv => whnf)) | (intro _ <;> (conv => whnf)) | (refine And.intro rfl ?_ <;> (conv => whnf)))
    refine onB_mk (fun h => ?_) (fun h => absurd h (by simp; omega)) <;> (try rw [h]) <;> (conv => whnf) <;> repeat (first | (refine And.intro trivial ?_ <;> (conv => whnf)) | (refine And.intro (And.intro (by omega) (by omega)) ?_ <;> (conv => whnf)) | (refine And.intro (by omega) ?_ <;> (conv => whnf)) | (intro _ <;> (conv => whnf)) | (refine And.intro rfl ?_ <;> (conv => whnf)))
    exact ret_now _ rfl
  · cases hf : fewB s <;> rw [hf] at hF
    · refine Pure.ev Try.f3 mx Try.func3 (by kernel_rfl) rfl rfl rfl ?_ <;> (conv => whnf) <;> repeat (first | (refine And.intro trivial ?_ <;> (conv => whnf)) | (refine And.intro (And.intro (by omega) (by omega)) ?_ <;> (conv => whnf)) | (refine And.intro (by omega) ?_ <;> (conv => whnf)) | (intro _ <;> (conv => whnf)) | (refine And.intro rfl ?_ <;> (conv => whnf)))
      refine onB_mk (fun h => absurd h (by simp; omega)) (fun h => ?_) <;> (try rw [h]) <;> (conv => whnf) <;> repeat (first | (refine And.intro trivial ?_ <;> (conv => whnf)) | (refine And.intro (And.intro (by omega) (by omega)) ?_ <;> (conv => whnf)) | (refine And.intro (by omega) ?_ <;> (conv => whnf)) | (intro _ <;> (conv => whnf)) | (refine And.intro rfl ?_ <;> (conv => whnf)))
      refine Pure.call hF ?_ <;> (conv => whnf) <;> repeat (first | (refine And.intro trivial ?_ <;> (conv => whnf)) | (refine And.intro (And.intro (by omega) (by omega)) ?_ <;> (conv => whnf)) | (refine And.intro (by omega) ?_ <;> (conv => whnf)) | (intro _ <;> (conv => whnf)) | (refine And.intro rfl ?_ <;> (conv => whnf)))
      exact ret_now _ rfl
    · have hs := fewB_few hf
      refine Pure.ev Try.f3 mx Try.func3 (by kernel_rfl) rfl rfl rfl ?_ <;> (conv => whnf) <;> repeat (first | (refine And.intro trivial ?_ <;> (conv => whnf)) | (refine And.intro (And.intro (by omega) (by omega)) ?_ <;> (conv => whnf)) | (refine And.intro (by omega) ?_ <;> (conv => whnf)) | (intro _ <;> (conv => whnf)) | (refine And.intro rfl ?_ <;> (conv => whnf)))
      refine onB_mk (fun h => absurd h (by simp; omega)) (fun h => ?_) <;> (try rw [h]) <;> (conv => whnf) <;> repeat (first | (refine And.intro trivial ?_ <;> (conv => whnf)) | (refine And.intro (And.intro (by omega) (by omega)) ?_ <;> (conv => whnf)) | (refine And.intro (by omega) ?_ <;> (conv => whnf)) | (intro _ <;> (conv => whnf)) | (refine And.intro rfl ?_ <;> (conv => whnf)))
      refine Pure.call hF ?_ <;> (conv => whnf) <;> repeat (first | (refine And.intro trivial ?_ <;> (conv => whnf)) | (refine And.intro (And.intro (by omega) (by omega)) ?_ <;> (conv => whnf)) | (refine And.intro (by omega) ?_ <;> (conv => whnf)) | (intro _ <;> (conv => whnf)) | (refine And.intro rfl ?_ <;> (conv => whnf)))
      refine ⟨_, copyTask_p t (by omega), ?_⟩ <;> (conv => whnf) <;> repeat (first | (refine And.intro trivial ?_ <;> (conv => whnf)) | (refine And.intro (And.intro (by omega) (by omega)) ?_ <;> (conv => whnf)) | (refine And.intro (by omega) ?_ <;> (conv => whnf)) | (intro _ <;> (conv => whnf)) | (refine And.intro rfl ?_ <;> (conv => whnf)))
      refine ⟨_, hN, ?_⟩ <;> (conv => whnf) <;> repeat (first | (refine And.intro trivial ?_ <;> (conv => whnf)) | (refine And.intro (And.intro (by omega) (by omega)) ?_ <;> (conv => whnf)) | (refine And.intro (by omega) ?_ <;> (conv => whnf)) | (intro _ <;> (conv => whnf)) | (refine And.intro rfl ?_ <;> (conv => whnf)))
      refine Pure.call hR ?_ <;> (conv => whnf) <;> repeat (first | (refine And.intro trivial ?_ <;> (conv => whnf)) | (refine And.intro (And.intro (by omega) (by omega)) ?_ <;> (conv => whnf)) | (refine And.intro (by omega) ?_ <;> (conv => whnf)) | (intro _ <;> (conv => whnf)) | (refine And.intro rfl ?_ <;> (conv => whnf)))
      (rw [evN_cmp]; rotate_left 1; (focus kernel_rfl)) <;> (conv => whnf) <;> repeat (first | (refine And.intro trivial ?_ <;> (conv => whnf)) | (refine And.intro (And.intro (by omega) (by omega)) ?_ <;> (conv => whnf)) | (refine And.intro (by omega) ?_ <;> (conv => whnf)) | (intro _ <;> (conv => whnf)) | (refine And.intro rfl ?_ <;> (conv => whnf)))
      refine onB_mk (fun h => absurd h (by simp)) (fun h => ?_) <;> (try rw [h]) <;> (conv => whnf) <;> repeat (first | (refine And.intro trivial ?_ <;> (conv => whnf)) | (refine And.intro (And.intro (by omega) (by omega)) ?_ <;> (conv => whnf)) | (refine And.intro (by omega) ?_ <;> (conv => whnf)) | (intro _ <;> (conv => whnf)) | (refine And.intro rfl ?_ <;> (conv => whnf)))
      refine onB_mk (fun h => absurd h (by simp)) (fun h => ?_) <;> (try rw [h]) <;> (conv => whnf) <;> repeat (first | (refine And.intro trivial ?_ <;> (conv => whnf)) | (refine And.intro (And.intro (by omega) (by omega)) ?_ <;> (conv => whnf)) | (refine And.intro (by omega) ?_ <;> (conv => whnf)) | (intro _ <;> (conv => whnf)) | (refine And.intro rfl ?_ <;> (conv => whnf)))
      refine Pure.call (copyState_p s hs) ?_ <;> (conv => whnf) <;> repeat (first | (refine And.intro trivial ?_ <;> (conv => whnf)) | (refine And.intro (And.intro (by omega) (by omega)) ?_ <;> (conv => whnf)) | (refine And.intro (by omega) ?_ <;> (conv => whnf)) | (intro _ <;> (conv => whnf)) | (refine And.intro rfl ?_ <;> (conv => whnf)))
      refine loop_st (S := Nat × Step) (fun z => [(6, .hptr 1 15 0 0), (7, .hptr 2 5 0 0), (8, .hptr 3 2 0 0), (9, .hptr 4 2 0 0), (13, .hptr 6 2 0 0), (15, .hptr 7 5 0 0), (16, I z.1)])
        (fun z => ⟨8, [(7, some ⟨5, [s.fv.map FV.up], none⟩), (6, some ⟨2, [n.fv.map FV.up], none⟩), (4, some ⟨2, [z.2.fv.map FV.up], none⟩), (3, some ⟨2, [[I a, I b]], none⟩), (2, some ⟨5, [s.fv.map FV.up], none⟩), (1, some ⟨15, [k.fv.map FV.up], none⟩)]⟩)
        (fun z => z.1 ≤ 2 ∧ 0 ≤ z.2.do_) (fun z => 2 - z.1) (0, x)
        (Wk.cut rfl ⟨⟨rfl, rfl⟩, ⟨rfl, rfl⟩, ⟨rfl, rfl⟩, ⟨rfl, rfl⟩, ⟨rfl, rfl⟩, ⟨rfl, rfl⟩, ⟨rfl, rfl⟩, trivial⟩ ⟨⟨rfl, rfl, row1 rfl, nofun⟩, ⟨rfl, rfl, row1 rfl, nofun⟩, ⟨rfl, rfl, row1 rfl, nofun⟩, ⟨rfl, rfl, row1 rfl, nofun⟩, ⟨rfl, rfl, row1 rfl, nofun⟩, ⟨rfl, rfl, row1 rfl, nofun⟩, trivial⟩) ⟨Nat.zero_le _, hx⟩ ?_
      rintro ⟨i, y⟩ ⟨hi, hy⟩
      replace hi : i ≤ 2 := hi
      replace hy : 0 ≤ y.do_ := hy
      dsimp only
      (conv => whnf) <;> repeat (first | (refine And.intro trivial ?_ <;> (conv => whnf)) | (refine And.intro (And.intro (by omega) (by omega)) ?_ <;> (conv => whnf)) | (refine And.intro (by omega) ?_ <;> (conv => whnf)) | (intro _ <;> (conv => whnf)) | (refine And.intro rfl ?_ <;> (conv => whnf)))
      refine onB_mk (fun h => ?_) (fun h => ?_) <;> (try rw [h]) <;> (try simp only [decide_eq_true_eq, decide_eq_false_iff_not, beq_iff_eq, beq_eq_false_iff_ne, bne_iff_ne, bne_eq_false_iff_eq, ne_eq, Int.not_lt, Int.not_le, gt_iff_lt, ge_iff_le, Int.ofNat_lt, Int.natCast_inj] at h) <;> (conv => whnf) <;> repeat (first | (refine And.intro trivial ?_ <;> (conv => whnf)) | (refine And.intro (And.intro (by omega) (by omega)) ?_ <;> (conv => whnf)) | (refine And.intro (by omega) ?_ <;> (conv => whnf)) | (intro _ <;> (conv => whnf)) | (refine And.intro rfl ?_ <;> (conv => whnf)))
      · refine Pure.call (record_p s a b y k hy) ?_ <;> (conv => whnf) <;> repeat (first | (refine And.intro trivial ?_ <;> (conv => whnf)) | (refine And.intro (And.intro (by omega) (by omega)) ?_ <;> (conv => whnf)) | (refine And.intro (by omega) ?_ <;> (conv => whnf)) | (intro _ <;> (conv => whnf)) | (refine And.intro rfl ?_ <;> (conv => whnf)))
        refine Pure.call (refRecord_p s a b y k hy) ?_ <;> (conv => whnf) <;> repeat (first | (refine And.intro trivial ?_ <;> (conv => whnf)) | (refine And.intro (And.intro (by omega) (by omega)) ?_ <;> (conv => whnf)) | (refine And.intro (by omega) ?_ <;> (conv => whnf)) | (intro _ <;> (conv => whnf)) | (refine And.intro rfl ?_ <;> (conv => whnf)))
        refine Pure.call (equalRec_p (recR s a b y k)) ?_ <;> (conv => whnf) <;> repeat (first | (refine And.intro trivial ?_ <;> (conv => whnf)) | (refine And.intro (And.intro (by omega) (by omega)) ?_ <;> (conv => whnf)) | (refine And.intro (by omega) ?_ <;> (conv => whnf)) | (intro _ <;> (conv => whnf)) | (refine And.intro rfl ?_ <;> (conv => whnf)))
        refine onB_mk (fun h => absurd h (by simp)) (fun h => ?_) <;> (try rw [h]) <;> (conv => whnf) <;> repeat (first | (refine And.intro trivial ?_ <;> (conv => whnf)) | (refine And.intro (And.intro (by omega) (by omega)) ?_ <;> (conv => whnf)) | (refine And.intro (by omega) ?_ <;> (conv => whnf)) | (intro _ <;> (conv => whnf)) | (refine And.intro rfl ?_ <;> (conv => whnf)))
        refine onB_mk (fun h => absurd h (by simp)) (fun h => ?_) <;> (try rw [h]) <;> (conv => whnf) <;> repeat (first | (refine And.intro trivial ?_ <;> (conv => whnf)) | (refine And.intro (And.intro (by omega) (by omega)) ?_ <;> (conv => whnf)) | (refine And.intro (by omega) ?_ <;> (conv => whnf)) | (intro _ <;> (conv => whnf)) | (refine And.intro rfl ?_ <;> (conv => whnf)))
        exact ⟨(i + 1, n), (by simp only []; omega), ⟨(by simp only []; omega), hn⟩, Wk.cut rfl ⟨⟨rfl, rfl⟩, ⟨rfl, rfl⟩, ⟨rfl, rfl⟩, ⟨rfl, rfl⟩, ⟨rfl, rfl⟩, ⟨rfl, rfl⟩, ⟨by simp only [← wrapS (show i < 9223372036854775807 by omega)]; rfl, rfl⟩, trivial⟩
          ⟨⟨rfl, rfl, row1 rfl, nofun⟩, ⟨rfl, rfl, row1 rfl, nofun⟩, ⟨rfl, rfl, row1 rfl, nofun⟩, ⟨rfl, rfl, row1 rfl, nofun⟩, ⟨rfl, rfl, row1 rfl, nofun⟩, ⟨rfl, rfl, row1 rfl, nofun⟩, trivial⟩⟩
      · refine Pure.call (equalState_p s) ?_ <;> (conv => whnf) <;> repeat (first | (refine And.intro trivial ?_ <;> (conv => whnf)) | (refine And.intro (And.intro (by omega) (by omega)) ?_ <;> (conv => whnf)) | (refine And.intro (by omega) ?_ <;> (conv => whnf)) | (intro _ <;> (conv => whnf)) | (refine And.intro rfl ?_ <;> (conv => whnf)))
        refine Pure.call awake_p ?_ <;> (conv => whnf) <;> repeat (first | (refine And.intro trivial ?_ <;> (conv => whnf)) | (refine And.intro (And.intro (by omega) (by omega)) ?_ <;> (conv => whnf)) | (refine And.intro (by omega) ?_ <;> (conv => whnf)) | (intro _ <;> (conv => whnf)) | (refine And.intro rfl ?_ <;> (conv => whnf)))
        exact ret_now _ rfl
end Go.Proofs.Ytajpldeffhagaaa
