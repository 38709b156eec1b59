/- The example of the chapter, and that the law is awake. What the given data's bounds say of a state's tasks. -/
import Derived.Test.YtajpldeffhagaaaGreatM7
import Derived.Test.YtajpldeffhagaaaGreatM3
import Derived.WalkKit
import Derived.ProofKit
namespace Go.Proofs.YtajpldeffhagaaaGreat
open Go.RowKit E Go.ChangeShapes Go.WideShapes Go.ChangeAt
set_option maxRecDepth 100000
set_option linter.unusedVariables false
set_option linter.unusedSimpArgs false
def exP : Policy := ⟨false, 2, 20, 2, 8⟩
def exT0 : Task := ⟨2, 3, 4, 3, 0, 0, 0, [5]⟩
def exT1 : Task := ⟨6, 2, 0, 0, 0, 0, 0, [4]⟩
def exA : Alloc := ⟨⟨7, ⟨4, 4, 4⟩, [80], [⟨exP, 0⟩, ⟨exP, 0⟩]⟩, 1, 0, false, [exT0, exT1]⟩
def tRow (t : Task) (b : AV) : List AV := [U8 t.state, I t.inc, I t.pid, I t.nonce, I t.due, I t.until_, I t.code, b]
abbrev h2 : AV := .hsl 2 1 0 1 1 true
abbrev h3 : AV := .hsl 3 1 0 1 1 true
abbrev h4 : AV := .hsl 4 8 0 2 2 true
abbrev h5 : AV := .hsl 5 1 0 1 1 true
abbrev h6 : AV := .hsl 6 6 0 2 2 true
abbrev f6 : AV := .sl 6 2 fun i => TaskSpec.fv (exA.spec.tasks.getD i default)
abbrev f4 : AV := .sl 8 2 fun i => Task.fv (exA.tasks.getD i default)
abbrev b6 : E.Blk := ⟨6, [(TaskSpec.fv ⟨exP, 0⟩).map FV.up, (TaskSpec.fv ⟨exP, 0⟩).map FV.up], none⟩
abbrev b5 : E.Blk := ⟨1, [[I 80]], none⟩
abbrev b4 (p q : AV) : E.Blk := ⟨8, [tRow exT0 p, tRow exT1 q], none⟩
abbrev b3 : E.Blk := ⟨1, [[I 4]], none⟩
abbrev b2 : E.Blk := ⟨1, [[I 5]], none⟩
theorem wfS_of {s : State} (h : State.kn.Wf s) : s.wfS := fun i j => by
  have h1 : ∀ a ∈ s.allocs, Alloc.kn.Wf a := h.2.2.2.2.2
  by_cases hi : i < s.allocs.length
  · have e : s.allocs.getD i default = s.allocs[i] := by simp [List.getD_eq_getElem?_getD, hi]
    have h2 := h1 _ (List.getElem_mem hi)
    rw [e]
    have h3 : ∀ t ∈ (s.allocs[i]).tasks, Task.kn.Wf t := h2.2.2.2.2.2
    by_cases hj : j < (s.allocs[i]).tasks.length
    · have e2 : (s.allocs[i]).tasks.getD j default = (s.allocs[i]).tasks[j] := by simp [List.getD_eq_getElem?_getD, hj]
      rw [e2]
      exact (bounds_u8 (h3 _ (List.getElem_mem hj)).1).1
    · rw [List.getD_eq_getElem?_getD, List.getElem?_eq_none (by omega)]; exact Int.le_refl _
  · have e : s.allocs.getD i default = default := by rw [List.getD_eq_getElem?_getD, List.getElem?_eq_none (by omega)]; rfl
    rw [e]
    show 0 ≤ (([] : List Task).getD j default).state
    rw [List.getD_eq_getElem?_getD]
    simp
    exact Int.le_refl _
end Go.Proofs.YtajpldeffhagaaaGreat
