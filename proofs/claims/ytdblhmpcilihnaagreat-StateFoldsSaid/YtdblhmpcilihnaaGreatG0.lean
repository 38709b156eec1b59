/- Records as they are given to a law. -/
import Derived.Test.YtdblhmpcilihnaaGreatKK
import Derived.Test.YtdblhmpcilihnaaGreatBoot1
namespace Go.Proofs.YtdblhmpcilihnaaGreat
open Go.RowKit E
set_option linter.unusedVariables false
set_option linter.unusedSimpArgs false
abbrev slRec (l : List Rec) : AV := .sl 15 l.length fun i => Rec.fv (l.getD i default)
theorem kinds_of {l : List Rec} (h : (Kn.slice Rec.kn).Wf l) (i : Nat) : 0 ≤ (l.getD i default).kind := by
  have h1 : ∀ r ∈ l, Rec.kn.Wf r := h.2
  by_cases hi : i < l.length
  · exact (bounds_u8 (h1 _ (mem_at hi)).1).1
  · rw [List.getD_eq_getElem?_getD, List.getElem?_eq_none (by omega)]; exact Int.le_refl _
theorem kinds_u8 {l : List Rec} (h : (Kn.slice Rec.kn).Wf l) (i : Nat) : 0 ≤ (l.getD i default).kind ∧ (l.getD i default).kind ≤ 255 := by
  have h1 : ∀ r ∈ l, Rec.kn.Wf r := h.2
  by_cases hi : i < l.length
  · exact bounds_u8 (h1 _ (mem_at hi)).1
  · rw [List.getD_eq_getElem?_getD, List.getElem?_eq_none (by omega)]; exact ⟨Int.le_refl _, by decide⟩
end Go.Proofs.YtdblhmpcilihnaaGreat
