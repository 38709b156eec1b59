/- Few, and the small functions of layers 12, 19 and 31: contracts by the engine. -/
import Derived.Test.YtajpldeffhagaaaE2
namespace Go.Proofs.Ytajpldeffhagaaa
open Go.RowKit E
set_option maxRecDepth 100000
set_option linter.unusedVariables false
set_option linter.unusedSimpArgs false
theorem row1 {n : Nat} {r : List AV} (h : bdL n r = true) : ∀ row ∈ [r], bdL n row = true := fun row hr => by rw [List.mem_singleton.1 hr]; exact h
open Classical in
noncomputable def fewB (s : State) : Bool := decide s.few
open Classical in
theorem fewB_no {s : State} (h : ¬ s.few) : fewB s = false := decide_eq_false h
open Classical in
theorem fewB_yes {s : State} (h : s.few) : fewB s = true := decide_eq_true h
open Classical in
theorem fewB_few {s : State} (h : fewB s = true) : s.few := of_decide_eq_true h
theorem few_p (s : State) : Pure Try.prog 5 [s.av] (B (fewB s)) := by
  refine Pure.ev Try.f5 mx Try.func5 (by kernel_rfl) rfl rfl rfl ?_ <;> (conv => whnf) <;> repeat (first | (refine And.intro trivial ?_ <;> (conv => whnf)) | (refine And.intro (And.intro (by omega) (by omega)) ?_ <;> (conv => whnf)) | (refine And.intro (by omega) ?_ <;> (conv => whnf)) | (intro _ <;> (conv => whnf)) | (refine And.intro rfl ?_ <;> (conv => whnf)))
  refine onB_mk (fun h => ?_) (fun h => ?_) <;> (try rw [h]) <;> (try simp only [decide_eq_true_eq, decide_eq_false_iff_not, beq_iff_eq, beq_eq_false_iff_ne, bne_iff_ne, bne_eq_false_iff_eq, ne_eq, Int.not_lt, Int.not_le, gt_iff_lt, ge_iff_le, Int.ofNat_lt, Int.natCast_inj] at h) <;> (conv => whnf) <;> repeat (first | (refine And.intro trivial ?_ <;> (conv => whnf)) | (refine And.intro (And.intro (by omega) (by omega)) ?_ <;> (conv => whnf)) | (refine And.intro (by omega) ?_ <;> (conv => whnf)) | (intro _ <;> (conv => whnf)) | (refine And.intro rfl ?_ <;> (conv => whnf)))
  · refine ret_now _ ?_
    rw [fewB_no fun hf => by have := hf.1; omega]
  · refine loop_st (S := Nat) (fun k => [(1, .hptr 0 5 0 0), (3, I k)]) (fun _ => ⟨1, [(0, some ⟨5, [s.fv.map FV.up], none⟩)]⟩) (fun k => k ≤ s.allocs.length ∧ ∀ j, j < k → (s.allocs.getD j default).few) (fun k => s.allocs.length - k) 0
      (Wk.cut rfl ⟨⟨rfl, rfl⟩, ⟨rfl, rfl⟩, trivial⟩ ⟨⟨rfl, rfl, row1 rfl, nofun⟩, trivial⟩) ⟨Nat.zero_le _, fun j hj => absurd hj (Nat.not_lt_zero _)⟩ ?_
    rintro i ⟨hi, hpre⟩
    (conv => whnf) <;> repeat (first | (refine And.intro trivial ?_ <;> (conv => whnf)) | (refine And.intro (And.intro (by omega) (by omega)) ?_ <;> (conv => whnf)) | (refine And.intro (by omega) ?_ <;> (conv => whnf)) | (intro _ <;> (conv => whnf)) | (refine And.intro rfl ?_ <;> (conv => whnf)))
    refine onB_mk (fun h => ?_) (fun h => ?_) <;> (try rw [h]) <;> (try simp only [decide_eq_true_eq, decide_eq_false_iff_not, beq_iff_eq, beq_eq_false_iff_ne, bne_iff_ne, bne_eq_false_iff_eq, ne_eq, Int.not_lt, Int.not_le, gt_iff_lt, ge_iff_le, Int.ofNat_lt, Int.natCast_inj] at h) <;> (conv => whnf) <;> repeat (first | (refine And.intro trivial ?_ <;> (conv => whnf)) | (refine And.intro (And.intro (by omega) (by omega)) ?_ <;> (conv => whnf)) | (refine And.intro (by omega) ?_ <;> (conv => whnf)) | (intro _ <;> (conv => whnf)) | (refine And.intro rfl ?_ <;> (conv => whnf)))
    · have few1 : ∀ {P : Prop}, ((s.allocs.getD i default).few → False) → fewB s = false := fun hh => fewB_no fun hf => hh (hf.2 i)
      have ht : (Int.toNat (i : Int)) = i := Int.toNat_natCast i
      simp only [ht]
      refine onB_mk (fun h => ?_) (fun h => ?_) <;> (try rw [h]) <;> (try simp only [decide_eq_true_eq, decide_eq_false_iff_not, beq_iff_eq, beq_eq_false_iff_ne, bne_iff_ne, bne_eq_false_iff_eq, ne_eq, Int.not_lt, Int.not_le, gt_iff_lt, ge_iff_le, Int.ofNat_lt, Int.natCast_inj] at h) <;> (conv => whnf) <;> repeat (first | (refine And.intro trivial ?_ <;> (conv => whnf)) | (refine And.intro (And.intro (by omega) (by omega)) ?_ <;> (conv => whnf)) | (refine And.intro (by omega) ?_ <;> (conv => whnf)) | (intro _ <;> (conv => whnf)) | (refine And.intro rfl ?_ <;> (conv => whnf)))
      · refine ret_now _ ?_
        rw [few1 (P := True) fun hf => by have := hf.1; omega]
      · refine onB_mk (fun h => ?_) (fun h => ?_) <;> (try rw [h]) <;> (try simp only [decide_eq_true_eq, decide_eq_false_iff_not, beq_iff_eq, beq_eq_false_iff_ne, bne_iff_ne, bne_eq_false_iff_eq, ne_eq, Int.not_lt, Int.not_le, gt_iff_lt, ge_iff_le, Int.ofNat_lt, Int.natCast_inj] at h) <;> (conv => whnf) <;> repeat (first | (refine And.intro trivial ?_ <;> (conv => whnf)) | (refine And.intro (And.intro (by omega) (by omega)) ?_ <;> (conv => whnf)) | (refine And.intro (by omega) ?_ <;> (conv => whnf)) | (intro _ <;> (conv => whnf)) | (refine And.intro rfl ?_ <;> (conv => whnf)))
        · refine ret_now _ ?_
          rw [few1 (P := True) fun hf => by have := hf.2.1; omega]
        · refine onB_mk (fun h => ?_) (fun h => ?_) <;> (try rw [h]) <;> (try simp only [decide_eq_true_eq, decide_eq_false_iff_not, beq_iff_eq, beq_eq_false_iff_ne, bne_iff_ne, bne_eq_false_iff_eq, ne_eq, Int.not_lt, Int.not_le, gt_iff_lt, ge_iff_le, Int.ofNat_lt, Int.natCast_inj] at h) <;> (conv => whnf) <;> repeat (first | (refine And.intro trivial ?_ <;> (conv => whnf)) | (refine And.intro (And.intro (by omega) (by omega)) ?_ <;> (conv => whnf)) | (refine And.intro (by omega) ?_ <;> (conv => whnf)) | (intro _ <;> (conv => whnf)) | (refine And.intro rfl ?_ <;> (conv => whnf)))
          · refine ret_now _ ?_
            rw [few1 (P := True) fun hf => by have := hf.2.2.1; omega]
          · refine loop_st (S := Nat) (fun k => [(1, .hptr 0 5 0 0), (3, I i), (4, .hptr 1 10 0 0), (5, I k)]) (fun _ => ⟨2, [(1, some ⟨10, [(s.allocs.getD i default).fv.map FV.up], none⟩), (0, some ⟨5, [s.fv.map FV.up], none⟩)]⟩)
              (fun k => k ≤ (s.allocs.getD i default).tasks.length ∧ ∀ j, j < k → ((s.allocs.getD i default).tasks.getD j default).starts.length ≤ 20) (fun k => (s.allocs.getD i default).tasks.length - k) 0
              (Wk.cut rfl ⟨⟨rfl, rfl⟩, ⟨rfl, rfl⟩, ⟨rfl, rfl⟩, ⟨rfl, rfl⟩, trivial⟩ ⟨⟨rfl, rfl, row1 rfl, nofun⟩, ⟨rfl, rfl, row1 rfl, nofun⟩, trivial⟩) ⟨Nat.zero_le _, fun j hj => absurd hj (Nat.not_lt_zero _)⟩ ?_
            rintro k ⟨hk, hkp⟩
            (conv => whnf) <;> repeat (first | (refine And.intro trivial ?_ <;> (conv => whnf)) | (refine And.intro (And.intro (by omega) (by omega)) ?_ <;> (conv => whnf)) | (refine And.intro (by omega) ?_ <;> (conv => whnf)) | (intro _ <;> (conv => whnf)) | (refine And.intro rfl ?_ <;> (conv => whnf)))
            refine onB_mk (fun h => ?_) (fun h => ?_) <;> (try rw [h]) <;> (try simp only [decide_eq_true_eq, decide_eq_false_iff_not, beq_iff_eq, beq_eq_false_iff_ne, bne_iff_ne, bne_eq_false_iff_eq, ne_eq, Int.not_lt, Int.not_le, gt_iff_lt, ge_iff_le, Int.ofNat_lt, Int.natCast_inj] at h) <;> (conv => whnf) <;> repeat (first | (refine And.intro trivial ?_ <;> (conv => whnf)) | (refine And.intro (And.intro (by omega) (by omega)) ?_ <;> (conv => whnf)) | (refine And.intro (by omega) ?_ <;> (conv => whnf)) | (intro _ <;> (conv => whnf)) | (refine And.intro rfl ?_ <;> (conv => whnf)))
            · refine onB_mk (fun h => ?_) (fun h => ?_) <;> (try rw [h]) <;> (try simp only [decide_eq_true_eq, decide_eq_false_iff_not, beq_iff_eq, beq_eq_false_iff_ne, bne_iff_ne, bne_eq_false_iff_eq, ne_eq, Int.not_lt, Int.not_le, gt_iff_lt, ge_iff_le, Int.ofNat_lt, Int.natCast_inj] at h) <;> (conv => whnf) <;> repeat (first | (refine And.intro trivial ?_ <;> (conv => whnf)) | (refine And.intro (And.intro (by omega) (by omega)) ?_ <;> (conv => whnf)) | (refine And.intro (by omega) ?_ <;> (conv => whnf)) | (intro _ <;> (conv => whnf)) | (refine And.intro rfl ?_ <;> (conv => whnf)))
              · refine ret_now _ ?_
                rw [few1 (P := True) fun hf => by have := hf.2.2.2 k; simp only [Int.toNat_natCast] at h; omega]
              · refine ⟨k + 1, by omega, ⟨by omega, fun j hj => ?_⟩, Wk.sub ⟨rfl, rfl, rfl, by simp only [← wrapS (show k < 9223372036854775807 by omega)]; rfl, trivial⟩⟩
                rcases Nat.lt_succ_iff_lt_or_eq.1 hj with h1 | rfl
                · exact hkp j h1
                · simp only [Int.toNat_natCast] at h; omega
            · refine ⟨i + 1, by omega, ⟨by omega, fun j hj => ?_⟩, Wk.cut rfl ⟨⟨rfl, rfl⟩, ⟨by simp only [← wrapS (show i < 9223372036854775807 by omega)]; rfl, rfl⟩, trivial⟩ ⟨⟨rfl, rfl, row1 rfl, nofun⟩, trivial⟩⟩
              rcases Nat.lt_succ_iff_lt_or_eq.1 hj with h1 | rfl
              · exact hpre j h1
              · refine ⟨by omega, by omega, by omega, fun m => ?_⟩
                by_cases c : m < k
                · exact hkp m c
                · rw [show ((s.allocs.getD j default).tasks.getD m default) = default by simp [List.getD_eq_getElem?_getD] at *; rw [List.getElem?_eq_none (by omega)]; rfl]
                  decide
    · refine ret_now _ ?_
      rw [fewB_yes ⟨by omega, fun j => ?_⟩]
      by_cases c : j < i
      · exact hpre j c
      · have : s.allocs.getD j default = default := by simp [List.getD_eq_getElem?_getD, show s.allocs.length ≤ j by omega]
        rw [this]
        exact ⟨by decide, by decide, by decide, fun k => by show ((([] : List Task).getD k default).starts.length ≤ 20); rw [List.getD_nil]; decide⟩
theorem in_p (n a b : Int) : Pure Try.prog 31 [I n, I a, I b] (B (decide (a ≤ n ∧ n ≤ b))) := by
  refine Pure.ev Try.f31 mx Try.func31 (by kernel_rfl) rfl rfl rfl ?_ <;> (conv => whnf) <;> repeat (first | (refine And.intro trivial ?_ <;> (conv => whnf)) | (refine And.intro (And.intro (by omega) (by omega)) ?_ <;> (conv => whnf)) | (refine And.intro (by omega) ?_ <;> (conv => whnf)) | (intro _ <;> (conv => whnf)) | (refine And.intro rfl ?_ <;> (conv => whnf)))
  refine onB_mk (fun h => ?_) (fun h => ?_) <;> (try rw [h]) <;> (try simp only [decide_eq_true_eq, decide_eq_false_iff_not, beq_iff_eq, beq_eq_false_iff_ne, bne_iff_ne, bne_eq_false_iff_eq, ne_eq, Int.not_lt, Int.not_le, gt_iff_lt, ge_iff_le, Int.ofNat_lt, Int.natCast_inj] at h) <;> (conv => whnf) <;> repeat (first | (refine And.intro trivial ?_ <;> (conv => whnf)) | (refine And.intro (And.intro (by omega) (by omega)) ?_ <;> (conv => whnf)) | (refine And.intro (by omega) ?_ <;> (conv => whnf)) | (intro _ <;> (conv => whnf)) | (refine And.intro rfl ?_ <;> (conv => whnf))) <;> try refine onB_mk (fun h => ?_) (fun h => ?_) <;> (try rw [h]) <;> (try simp only [decide_eq_true_eq, decide_eq_false_iff_not, beq_iff_eq, beq_eq_false_iff_ne, bne_iff_ne, bne_eq_false_iff_eq, ne_eq, Int.not_lt, Int.not_le, gt_iff_lt, ge_iff_le, Int.ofNat_lt, Int.natCast_inj] at h) <;> (conv => whnf) <;> repeat (first | (refine And.intro trivial ?_ <;> (conv => whnf)) | (refine And.intro (And.intro (by omega) (by omega)) ?_ <;> (conv => whnf)) | (refine And.intro (by omega) ?_ <;> (conv => whnf)) | (intro _ <;> (conv => whnf)) | (refine And.intro rfl ?_ <;> (conv => whnf)))
  all_goals (refine ret_now _ ?_; congr 2; simp; omega)
end Go.Proofs.Ytajpldeffhagaaa
