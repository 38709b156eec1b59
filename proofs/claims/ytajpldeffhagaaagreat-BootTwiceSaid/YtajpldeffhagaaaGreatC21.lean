/- What the given data's bounds say of a state's tasks. -/
import Derived.Test.YtajpldeffhagaaaGreatC20
import Derived.WalkKit
import Derived.ProofKit
namespace Go.Proofs.YtajpldeffhagaaaGreat
open Go.RowKit E Go.ChangeShapes Go.WideShapes Go.ChangeAt
set_option linter.unusedVariables false
theorem wfS_of {s : State} (h : State.kn.Wf s) : s.wfS := fun i j => by
  have h1 : ∀ a ∈ s.allocs, Alloc.kn.Wf a := h.2.2.2.2.2
  by_cases hi : i < s.allocs.length
  · have e : s.allocs.getD i default = s.allocs[i] := by simp [List.getD_eq_getElem?_getD, hi]
    have h2 := h1 _ (List.getElem_mem hi)
    rw [e]
    have h3 : ∀ t ∈ (s.allocs[i]).tasks, Task.kn.Wf t := h2.2.2.2.2.2
    by_cases hj : j < (s.allocs[i]).tasks.length
    · have e2 : (s.allocs[i]).tasks.getD j default = (s.allocs[i]).tasks[j] := by simp [List.getD_eq_getElem?_getD, hj]
      rw [e2]
      exact (bounds_u8 (h3 _ (List.getElem_mem hj)).1).1
    · rw [List.getD_eq_getElem?_getD, List.getElem?_eq_none (by omega)]; exact Int.le_refl _
  · have e : s.allocs.getD i default = default := by rw [List.getD_eq_getElem?_getD, List.getElem?_eq_none (by omega)]; rfl
    rw [e]
    show 0 ≤ (([] : List Task).getD j default).state
    rw [List.getD_eq_getElem?_getD]
    simp
    exact Int.le_refl _
end Go.Proofs.YtajpldeffhagaaaGreat
