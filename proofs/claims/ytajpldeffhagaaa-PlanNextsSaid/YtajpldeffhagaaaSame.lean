/- The two ways to say that a task is good, and what is next, agree. -/
import Derived.Test.YtajpldeffhagaaaE8
import Derived.Test.YtajpldeffhagaaaTaskCheck
namespace Go.Proofs.Ytajpldeffhagaaa
open Go.RowKit E
set_option linter.unusedVariables false
theorem startsTo_good (l : List Int) : ∀ k, startsTo l k = true ↔ ∀ j, j < k → goodAt l j
  | 0 => ⟨fun _ j h => absurd h (Nat.not_lt_zero _), fun _ => rfl⟩
  | k + 1 => by
    have h1 : startOk l k (l.getD k 0) = true ↔ goodAt l k := by
      unfold startOk goodAt inB mTick
      simp only [Bool.and_eq_true, Bool.or_eq_true, decide_eq_true_eq, beq_iff_eq]
      refine ⟨fun h => ⟨h.1, fun h2 => by omega⟩, fun h => ⟨h.1, ?_⟩⟩
      by_cases c : k = 0
      · left; omega
      · right; exact h.2 (by omega)
    unfold startsTo
    rw [Bool.and_eq_true, startsTo_good l k, h1, all_succ]
theorem ok_good (t : Task) : t.ok = true ↔ goodF t.state t.inc t.pid t.nonce t.due t.until_ t.code t.starts := by
  have hS := startsTo_good t.starts t.starts.length
  generalize startsTo t.starts t.starts.length = q at hS
  have hb : t.ok = (t.b6 (t.b5 (t.b4 (t.b3 (t.b1 && startsTo t.starts t.starts.length))))) := rfl
  unfold Task.ok Task.b6 Task.b5 Task.b4 Task.b3 Task.b1 Task.has onlyB inB mTick mTick2
  constructor
  · intro h
    have hq : startsTo t.starts t.starts.length = true := by
      by_cases c1 : (t.state == 0) = true <;> by_cases c2 : (t.inc == 0) = true <;> simp only [c1, c2, if_true, if_false, Bool.and_eq_true, Bool.false_eq_true, Bool.true_eq_false] at h
      · exact h.1.1.1.1.2
      · exact h.1.1.1.2
      · exact h.1.1.1.2
      · exact h.1.1.2
    have hall := (startsTo_good _ _).1 hq
    clear hS hb
    by_cases c1 : t.state = 0 <;> by_cases c2 : t.inc = 0 <;> by_cases c3 : t.starts.length = 0 <;> simp [c1, c2, c3, hq, -List.length_eq_zero_iff] at h
    all_goals exact ⟨by omega, by omega, by omega, by omega, by omega, hall, by omega, by omega, by omega, by omega, by omega, by omega⟩
  · intro g
    have hq : startsTo t.starts t.starts.length = true := (startsTo_good _ _).2 g.h_srt
    have h1 := g.h_st; have h2 := g.h_inc0; have h3 := g.h_inc1; have h4 := g.h_len; have h5 := g.h_emp; have h6 := g.h_pend; have h7 := g.h_none; have h8 := g.h_pid; have h9 := g.h_nonce; have h10 := g.h_due; have h11 := g.h_until_
    clear g hS hb
    rw [hq]
    by_cases c1 : t.state = 0 <;> by_cases c2 : t.inc = 0 <;> by_cases c3 : t.starts.length = 0 <;> simp [c1, c2, c3, bb, -List.length_eq_zero_iff]
    all_goals omega
theorem err_same (t : Task) : t.err = errT t := by
  unfold Task.err errT
  by_cases h : t.ok = true
  · rw [if_pos h, errF_yes ((ok_good t).1 h)]
  · rw [if_neg h, errF_no fun hg => h ((ok_good t).2 hg)]
end Go.Proofs.Ytajpldeffhagaaa
