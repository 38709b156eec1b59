/- What is next for a task: the reference's (layer 31). -/
import Derived.Test.YtajpldeffhagaaaE7
namespace Go.Proofs.Ytajpldeffhagaaa
open Go.RowKit E
set_option maxRecDepth 100000
set_option linter.unusedVariables false
set_option linter.unusedSimpArgs false
def liveG (st until_ now : Int) (fenced sick term kill : Bool) : Int :=
  if st = 1 then (if fenced then 4 else 2) else if st = 2 then (if fenced || sick then 4 else 0) else
  if st = 4 then (if fenced = true ∨ until_ ≤ now then 4 else if term then 0 else 6) else if kill then 0 else 5
def nextG (t : Task) (k : Look) : Step :=
  if t.state = 0 then ⟨if k.expired || k.other then 0 else 1, 0⟩ else
  if t.state = 3 then ⟨if k.expired || k.other then 0 else if t.due ≤ k.now then 1 else 0, 0⟩ else
  if t.state = 6 ∨ t.state = 7 then ⟨0, 0⟩ else
  if k.has = false then ⟨3, -1⟩ else if k.proc.alive = false then ⟨3, k.proc.code⟩ else ⟨liveG t.state t.until_ k.now k.fenced k.sick k.proc.term k.proc.kill, 0⟩
theorem errT_or (t : Task) : errT t = 0 ∨ errT t = 2 := by unfold errT errF; split <;> simp
theorem errT_le {t : Task} (h : errT t = 0) : t.state ≤ 7 := by
  unfold errT errF at h
  split at h
  · rename_i hg; exact hg.h_st
  · cases h
theorem ended_p (k : Look) : Pure Try.prog 22 [k.av] (.tup [I (if k.has = false then -1 else k.proc.code), B (if k.has = false then true else !k.proc.alive)]) := by
  obtain ⟨now, expired, fenced, sick, has, ⟨pid, nonce, token, alive, term, kill, code⟩, other⟩ := k
  cases has <;> cases alive
  all_goals (refine Pure.ev Try.f22 mx Try.func22 (by kernel_rfl) rfl rfl rfl ?_ <;> (conv => whnf) <;> repeat (first | (refine And.intro trivial ?_ <;> (conv => whnf)) | (refine And.intro (And.intro (by omega) (by omega)) ?_ <;> (conv => whnf)) | (refine And.intro (by omega) ?_ <;> (conv => whnf)) | (intro _ <;> (conv => whnf)) | (refine And.intro rfl ?_ <;> (conv => whnf))))
  all_goals exact ret_now _ rfl
theorem fin {s s' : Step} (h : s = s') : AV.tup [s.av, I 0] = AV.tup [s'.av, I 0] := by rw [h]
set_option maxHeartbeats 8000000 in
theorem refNext_p (t : Task) (k : Look) (h0 : 0 ≤ t.state) : Pure Try.prog 8 [t.av, k.av] (.tup [(if errT t = 0 then nextG t k else ⟨0, 0⟩ : Step).av, I (errT t)]) := by
  have hc := ref19Check_p t h0
  rcases errT_or t with e | e
  · have hle := errT_le e
    rw [e] at hc ⊢
    rw [if_pos rfl]
    clear e
    obtain ⟨st, inc, pid, nonce, due, until_, code, starts⟩ := t
    obtain ⟨now, expired, fenced, sick, has, ⟨pid, nonce, token, alive, term, kill, code⟩, other⟩ := k
    have hst : st = 0 ∨ st = 1 ∨ st = 2 ∨ st = 3 ∨ st = 4 ∨ st = 5 ∨ st = 6 ∨ st = 7 := by have := states h0; simp only at *; omega
    clear h0 hle
    rcases hst with rfl | rfl | rfl | rfl | rfl | rfl | rfl | rfl
    · cases expired <;> cases other
      all_goals (refine Pure.ev Try.f8 mx Try.func8 (by kernel_rfl) rfl rfl rfl ?_ <;> (conv => whnf) <;> repeat (first | (refine And.intro trivial ?_ <;> (conv => whnf)) | (refine And.intro (And.intro (by omega) (by omega)) ?_ <;> (conv => whnf)) | (refine And.intro (by omega) ?_ <;> (conv => whnf)) | (intro _ <;> (conv => whnf)) | (refine And.intro rfl ?_ <;> (conv => whnf))))
      all_goals (refine Pure.call hc ?_ <;> (conv => whnf) <;> repeat (first | (refine And.intro trivial ?_ <;> (conv => whnf)) | (refine And.intro (And.intro (by omega) (by omega)) ?_ <;> (conv => whnf)) | (refine And.intro (by omega) ?_ <;> (conv => whnf)) | (intro _ <;> (conv => whnf)) | (refine And.intro rfl ?_ <;> (conv => whnf))))
      all_goals exact ret_now _ rfl
    · cases expired <;> cases other <;> cases has <;> cases alive <;> cases fenced
      all_goals (refine Pure.ev Try.f8 mx Try.func8 (by kernel_rfl) rfl rfl rfl ?_ <;> (conv => whnf) <;> repeat (first | (refine And.intro trivial ?_ <;> (conv => whnf)) | (refine And.intro (And.intro (by omega) (by omega)) ?_ <;> (conv => whnf)) | (refine And.intro (by omega) ?_ <;> (conv => whnf)) | (intro _ <;> (conv => whnf)) | (refine And.intro rfl ?_ <;> (conv => whnf))))
      all_goals (refine Pure.call hc ?_ <;> (conv => whnf) <;> repeat (first | (refine And.intro trivial ?_ <;> (conv => whnf)) | (refine And.intro (And.intro (by omega) (by omega)) ?_ <;> (conv => whnf)) | (refine And.intro (by omega) ?_ <;> (conv => whnf)) | (intro _ <;> (conv => whnf)) | (refine And.intro rfl ?_ <;> (conv => whnf))))
      all_goals (refine Pure.call (ended_p _) ?_ <;> (conv => whnf) <;> repeat (first | (refine And.intro trivial ?_ <;> (conv => whnf)) | (refine And.intro (And.intro (by omega) (by omega)) ?_ <;> (conv => whnf)) | (refine And.intro (by omega) ?_ <;> (conv => whnf)) | (intro _ <;> (conv => whnf)) | (refine And.intro rfl ?_ <;> (conv => whnf))))
      all_goals first
        | exact ret_now _ rfl
        | (refine onB_mk (fun h => ?_) (fun h => ?_) <;> (try rw [h]) <;> (try simp only [decide_eq_true_eq, decide_eq_false_iff_not, beq_iff_eq, beq_eq_false_iff_ne, bne_iff_ne, bne_eq_false_iff_eq, ne_eq, Int.not_lt, Int.not_le, gt_iff_lt, ge_iff_le, Int.ofNat_lt, Int.natCast_inj] at h) <;> (conv => whnf) <;> repeat (first | (refine And.intro trivial ?_ <;> (conv => whnf)) | (refine And.intro (And.intro (by omega) (by omega)) ?_ <;> (conv => whnf)) | (refine And.intro (by omega) ?_ <;> (conv => whnf)) | (intro _ <;> (conv => whnf)) | (refine And.intro rfl ?_ <;> (conv => whnf)))
           all_goals (refine ret_now _ ?_)
           all_goals first | exact fin (s := ⟨0, 0⟩) (by simp [nextG, liveG] <;> omega) | exact fin (s := ⟨1, 0⟩) (by simp [nextG, liveG] <;> omega) | exact fin (s := ⟨4, 0⟩) (by simp [nextG, liveG] <;> omega) | exact fin (s := ⟨6, 0⟩) (by simp [nextG, liveG] <;> omega))
    · cases expired <;> cases other <;> cases has <;> cases alive <;> cases fenced <;> cases sick
      all_goals (refine Pure.ev Try.f8 mx Try.func8 (by kernel_rfl) rfl rfl rfl ?_ <;> (conv => whnf) <;> repeat (first | (refine And.intro trivial ?_ <;> (conv => whnf)) | (refine And.intro (And.intro (by omega) (by omega)) ?_ <;> (conv => whnf)) | (refine And.intro (by omega) ?_ <;> (conv => whnf)) | (intro _ <;> (conv => whnf)) | (refine And.intro rfl ?_ <;> (conv => whnf))))
      all_goals (refine Pure.call hc ?_ <;> (conv => whnf) <;> repeat (first | (refine And.intro trivial ?_ <;> (conv => whnf)) | (refine And.intro (And.intro (by omega) (by omega)) ?_ <;> (conv => whnf)) | (refine And.intro (by omega) ?_ <;> (conv => whnf)) | (intro _ <;> (conv => whnf)) | (refine And.intro rfl ?_ <;> (conv => whnf))))
      all_goals (refine Pure.call (ended_p _) ?_ <;> (conv => whnf) <;> repeat (first | (refine And.intro trivial ?_ <;> (conv => whnf)) | (refine And.intro (And.intro (by omega) (by omega)) ?_ <;> (conv => whnf)) | (refine And.intro (by omega) ?_ <;> (conv => whnf)) | (intro _ <;> (conv => whnf)) | (refine And.intro rfl ?_ <;> (conv => whnf))))
      all_goals first
        | exact ret_now _ rfl
        | (refine onB_mk (fun h => ?_) (fun h => ?_) <;> (try rw [h]) <;> (try simp only [decide_eq_true_eq, decide_eq_false_iff_not, beq_iff_eq, beq_eq_false_iff_ne, bne_iff_ne, bne_eq_false_iff_eq, ne_eq, Int.not_lt, Int.not_le, gt_iff_lt, ge_iff_le, Int.ofNat_lt, Int.natCast_inj] at h) <;> (conv => whnf) <;> repeat (first | (refine And.intro trivial ?_ <;> (conv => whnf)) | (refine And.intro (And.intro (by omega) (by omega)) ?_ <;> (conv => whnf)) | (refine And.intro (by omega) ?_ <;> (conv => whnf)) | (intro _ <;> (conv => whnf)) | (refine And.intro rfl ?_ <;> (conv => whnf)))
           all_goals (refine ret_now _ ?_)
           all_goals first | exact fin (s := ⟨0, 0⟩) (by simp [nextG, liveG] <;> omega) | exact fin (s := ⟨1, 0⟩) (by simp [nextG, liveG] <;> omega) | exact fin (s := ⟨4, 0⟩) (by simp [nextG, liveG] <;> omega) | exact fin (s := ⟨6, 0⟩) (by simp [nextG, liveG] <;> omega))
    · cases expired <;> cases other
      all_goals (refine Pure.ev Try.f8 mx Try.func8 (by kernel_rfl) rfl rfl rfl ?_ <;> (conv => whnf) <;> repeat (first | (refine And.intro trivial ?_ <;> (conv => whnf)) | (refine And.intro (And.intro (by omega) (by omega)) ?_ <;> (conv => whnf)) | (refine And.intro (by omega) ?_ <;> (conv => whnf)) | (intro _ <;> (conv => whnf)) | (refine And.intro rfl ?_ <;> (conv => whnf))))
      all_goals (refine Pure.call hc ?_ <;> (conv => whnf) <;> repeat (first | (refine And.intro trivial ?_ <;> (conv => whnf)) | (refine And.intro (And.intro (by omega) (by omega)) ?_ <;> (conv => whnf)) | (refine And.intro (by omega) ?_ <;> (conv => whnf)) | (intro _ <;> (conv => whnf)) | (refine And.intro rfl ?_ <;> (conv => whnf))))
      all_goals first
        | exact ret_now _ rfl
        | (refine onB_mk (fun h => ?_) (fun h => ?_) <;> (try rw [h]) <;> (try simp only [decide_eq_true_eq, decide_eq_false_iff_not, beq_iff_eq, beq_eq_false_iff_ne, bne_iff_ne, bne_eq_false_iff_eq, ne_eq, Int.not_lt, Int.not_le, gt_iff_lt, ge_iff_le, Int.ofNat_lt, Int.natCast_inj] at h) <;> (conv => whnf) <;> repeat (first | (refine And.intro trivial ?_ <;> (conv => whnf)) | (refine And.intro (And.intro (by omega) (by omega)) ?_ <;> (conv => whnf)) | (refine And.intro (by omega) ?_ <;> (conv => whnf)) | (intro _ <;> (conv => whnf)) | (refine And.intro rfl ?_ <;> (conv => whnf)))
           all_goals (refine ret_now _ ?_)
           all_goals first | exact fin (s := ⟨0, 0⟩) (by simp [nextG, liveG] <;> omega) | exact fin (s := ⟨1, 0⟩) (by simp [nextG, liveG] <;> omega) | exact fin (s := ⟨4, 0⟩) (by simp [nextG, liveG] <;> omega) | exact fin (s := ⟨6, 0⟩) (by simp [nextG, liveG] <;> omega))
    · cases expired <;> cases other <;> cases has <;> cases alive <;> cases fenced <;> cases term
      all_goals (refine Pure.ev Try.f8 mx Try.func8 (by kernel_rfl) rfl rfl rfl ?_ <;> (conv => whnf) <;> repeat (first | (refine And.intro trivial ?_ <;> (conv => whnf)) | (refine And.intro (And.intro (by omega) (by omega)) ?_ <;> (conv => whnf)) | (refine And.intro (by omega) ?_ <;> (conv => whnf)) | (intro _ <;> (conv => whnf)) | (refine And.intro rfl ?_ <;> (conv => whnf))))
      all_goals (refine Pure.call hc ?_ <;> (conv => whnf) <;> repeat (first | (refine And.intro trivial ?_ <;> (conv => whnf)) | (refine And.intro (And.intro (by omega) (by omega)) ?_ <;> (conv => whnf)) | (refine And.intro (by omega) ?_ <;> (conv => whnf)) | (intro _ <;> (conv => whnf)) | (refine And.intro rfl ?_ <;> (conv => whnf))))
      all_goals (refine Pure.call (ended_p _) ?_ <;> (conv => whnf) <;> repeat (first | (refine And.intro trivial ?_ <;> (conv => whnf)) | (refine And.intro (And.intro (by omega) (by omega)) ?_ <;> (conv => whnf)) | (refine And.intro (by omega) ?_ <;> (conv => whnf)) | (intro _ <;> (conv => whnf)) | (refine And.intro rfl ?_ <;> (conv => whnf))))
      all_goals first
        | exact ret_now _ rfl
        | (refine onB_mk (fun h => ?_) (fun h => ?_) <;> (try rw [h]) <;> (try simp only [decide_eq_true_eq, decide_eq_false_iff_not, beq_iff_eq, beq_eq_false_iff_ne, bne_iff_ne, bne_eq_false_iff_eq, ne_eq, Int.not_lt, Int.not_le, gt_iff_lt, ge_iff_le, Int.ofNat_lt, Int.natCast_inj] at h) <;> (conv => whnf) <;> repeat (first | (refine And.intro trivial ?_ <;> (conv => whnf)) | (refine And.intro (And.intro (by omega) (by omega)) ?_ <;> (conv => whnf)) | (refine And.intro (by omega) ?_ <;> (conv => whnf)) | (intro _ <;> (conv => whnf)) | (refine And.intro rfl ?_ <;> (conv => whnf)))
           all_goals (refine ret_now _ ?_)
           all_goals first | exact fin (s := ⟨0, 0⟩) (by simp [nextG, liveG] <;> omega) | exact fin (s := ⟨1, 0⟩) (by simp [nextG, liveG] <;> omega) | exact fin (s := ⟨4, 0⟩) (by simp [nextG, liveG] <;> omega) | exact fin (s := ⟨6, 0⟩) (by simp [nextG, liveG] <;> omega))
    · cases expired <;> cases other <;> cases has <;> cases alive <;> cases kill
      all_goals (refine Pure.ev Try.f8 mx Try.func8 (by kernel_rfl) rfl rfl rfl ?_ <;> (conv => whnf) <;> repeat (first | (refine And.intro trivial ?_ <;> (conv => whnf)) | (refine And.intro (And.intro (by omega) (by omega)) ?_ <;> (conv => whnf)) | (refine And.intro (by omega) ?_ <;> (conv => whnf)) | (intro _ <;> (conv => whnf)) | (refine And.intro rfl ?_ <;> (conv => whnf))))
      all_goals (refine Pure.call hc ?_ <;> (conv => whnf) <;> repeat (first | (refine And.intro trivial ?_ <;> (conv => whnf)) | (refine And.intro (And.intro (by omega) (by omega)) ?_ <;> (conv => whnf)) | (refine And.intro (by omega) ?_ <;> (conv => whnf)) | (intro _ <;> (conv => whnf)) | (refine And.intro rfl ?_ <;> (conv => whnf))))
      all_goals (refine Pure.call (ended_p _) ?_ <;> (conv => whnf) <;> repeat (first | (refine And.intro trivial ?_ <;> (conv => whnf)) | (refine And.intro (And.intro (by omega) (by omega)) ?_ <;> (conv => whnf)) | (refine And.intro (by omega) ?_ <;> (conv => whnf)) | (intro _ <;> (conv => whnf)) | (refine And.intro rfl ?_ <;> (conv => whnf))))
      all_goals first
        | exact ret_now _ rfl
        | (refine onB_mk (fun h => ?_) (fun h => ?_) <;> (try rw [h]) <;> (try simp only [decide_eq_true_eq, decide_eq_false_iff_not, beq_iff_eq, beq_eq_false_iff_ne, bne_iff_ne, bne_eq_false_iff_eq, ne_eq, Int.not_lt, Int.not_le, gt_iff_lt, ge_iff_le, Int.ofNat_lt, Int.natCast_inj] at h) <;> (conv => whnf) <;> repeat (first | (refine And.intro trivial ?_ <;> (conv => whnf)) | (refine And.intro (And.intro (by omega) (by omega)) ?_ <;> (conv => whnf)) | (refine And.intro (by omega) ?_ <;> (conv => whnf)) | (intro _ <;> (conv => whnf)) | (refine And.intro rfl ?_ <;> (conv => whnf)))
           all_goals (refine ret_now _ ?_)
           all_goals first | exact fin (s := ⟨0, 0⟩) (by simp [nextG, liveG] <;> omega) | exact fin (s := ⟨1, 0⟩) (by simp [nextG, liveG] <;> omega) | exact fin (s := ⟨4, 0⟩) (by simp [nextG, liveG] <;> omega) | exact fin (s := ⟨6, 0⟩) (by simp [nextG, liveG] <;> omega))
    · cases expired <;> cases other
      all_goals (refine Pure.ev Try.f8 mx Try.func8 (by kernel_rfl) rfl rfl rfl ?_ <;> (conv => whnf) <;> repeat (first | (refine And.intro trivial ?_ <;> (conv => whnf)) | (refine And.intro (And.intro (by omega) (by omega)) ?_ <;> (conv => whnf)) | (refine And.intro (by omega) ?_ <;> (conv => whnf)) | (intro _ <;> (conv => whnf)) | (refine And.intro rfl ?_ <;> (conv => whnf))))
      all_goals (refine Pure.call hc ?_ <;> (conv => whnf) <;> repeat (first | (refine And.intro trivial ?_ <;> (conv => whnf)) | (refine And.intro (And.intro (by omega) (by omega)) ?_ <;> (conv => whnf)) | (refine And.intro (by omega) ?_ <;> (conv => whnf)) | (intro _ <;> (conv => whnf)) | (refine And.intro rfl ?_ <;> (conv => whnf))))
      all_goals first
        | exact ret_now _ rfl
        | (refine onB_mk (fun h => ?_) (fun h => ?_) <;> (try rw [h]) <;> (try simp only [decide_eq_true_eq, decide_eq_false_iff_not, beq_iff_eq, beq_eq_false_iff_ne, bne_iff_ne, bne_eq_false_iff_eq, ne_eq, Int.not_lt, Int.not_le, gt_iff_lt, ge_iff_le, Int.ofNat_lt, Int.natCast_inj] at h) <;> (conv => whnf) <;> repeat (first | (refine And.intro trivial ?_ <;> (conv => whnf)) | (refine And.intro (And.intro (by omega) (by omega)) ?_ <;> (conv => whnf)) | (refine And.intro (by omega) ?_ <;> (conv => whnf)) | (intro _ <;> (conv => whnf)) | (refine And.intro rfl ?_ <;> (conv => whnf)))
           all_goals (refine ret_now _ ?_)
           all_goals first | exact fin (s := ⟨0, 0⟩) (by simp [nextG, liveG] <;> omega) | exact fin (s := ⟨1, 0⟩) (by simp [nextG, liveG] <;> omega) | exact fin (s := ⟨4, 0⟩) (by simp [nextG, liveG] <;> omega) | exact fin (s := ⟨6, 0⟩) (by simp [nextG, liveG] <;> omega))
    · cases expired <;> cases other
      all_goals (refine Pure.ev Try.f8 mx Try.func8 (by kernel_rfl) rfl rfl rfl ?_ <;> (conv => whnf) <;> repeat (first | (refine And.intro trivial ?_ <;> (conv => whnf)) | (refine And.intro (And.intro (by omega) (by omega)) ?_ <;> (conv => whnf)) | (refine And.intro (by omega) ?_ <;> (conv => whnf)) | (intro _ <;> (conv => whnf)) | (refine And.intro rfl ?_ <;> (conv => whnf))))
      all_goals (refine Pure.call hc ?_ <;> (conv => whnf) <;> repeat (first | (refine And.intro trivial ?_ <;> (conv => whnf)) | (refine And.intro (And.intro (by omega) (by omega)) ?_ <;> (conv => whnf)) | (refine And.intro (by omega) ?_ <;> (conv => whnf)) | (intro _ <;> (conv => whnf)) | (refine And.intro rfl ?_ <;> (conv => whnf))))
      all_goals first
        | exact ret_now _ rfl
        | (refine onB_mk (fun h => ?_) (fun h => ?_) <;> (try rw [h]) <;> (try simp only [decide_eq_true_eq, decide_eq_false_iff_not, beq_iff_eq, beq_eq_false_iff_ne, bne_iff_ne, bne_eq_false_iff_eq, ne_eq, Int.not_lt, Int.not_le, gt_iff_lt, ge_iff_le, Int.ofNat_lt, Int.natCast_inj] at h) <;> (conv => whnf) <;> repeat (first | (refine And.intro trivial ?_ <;> (conv => whnf)) | (refine And.intro (And.intro (by omega) (by omega)) ?_ <;> (conv => whnf)) | (refine And.intro (by omega) ?_ <;> (conv => whnf)) | (intro _ <;> (conv => whnf)) | (refine And.intro rfl ?_ <;> (conv => whnf)))
           all_goals (refine ret_now _ ?_)
           all_goals first | exact fin (s := ⟨0, 0⟩) (by simp [nextG, liveG] <;> omega) | exact fin (s := ⟨1, 0⟩) (by simp [nextG, liveG] <;> omega) | exact fin (s := ⟨4, 0⟩) (by simp [nextG, liveG] <;> omega) | exact fin (s := ⟨6, 0⟩) (by simp [nextG, liveG] <;> omega))
  · rw [e] at hc ⊢
    refine Pure.ev Try.f8 mx Try.func8 (by kernel_rfl) rfl rfl rfl ?_ <;> (conv => whnf) <;> repeat (first | (refine And.intro trivial ?_ <;> (conv => whnf)) | (refine And.intro (And.intro (by omega) (by omega)) ?_ <;> (conv => whnf)) | (refine And.intro (by omega) ?_ <;> (conv => whnf)) | (intro _ <;> (conv => whnf)) | (refine And.intro rfl ?_ <;> (conv => whnf)))
    refine Pure.call hc ?_ <;> (conv => whnf) <;> repeat (first | (refine And.intro trivial ?_ <;> (conv => whnf)) | (refine And.intro (And.intro (by omega) (by omega)) ?_ <;> (conv => whnf)) | (refine And.intro (by omega) ?_ <;> (conv => whnf)) | (intro _ <;> (conv => whnf)) | (refine And.intro rfl ?_ <;> (conv => whnf)))
    exact ret_now _ rfl
end Go.Proofs.Ytajpldeffhagaaa
