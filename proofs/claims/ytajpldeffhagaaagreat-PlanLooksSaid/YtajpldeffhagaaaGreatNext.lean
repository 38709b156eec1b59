/- plan.Next as a contract of the engine's, out of the old one. -/
import Derived.Test.YtajpldeffhagaaaGreatConv
import Derived.Test.YtajpldeffhagaaaGreatPlanNext2
import Derived.Test.YtajpldeffhagaaaGreatPlanPure
import Derived.Test.YtajpldeffhagaaaGreatE9
namespace Go.Proofs.YtajpldeffhagaaaGreat
open Go.RowKit E
set_option maxRecDepth 100000
set_option linter.unusedVariables false
theorem cells_eq {vs : Array Value} {l : List Value} (hl : vs.size = l.length) (h : ∀ i, i < l.length → vs.getD i undef = l.getD i undef) : vs = l.toArray := by
  apply Array.ext (by simpa using hl)
  intro i h1 h2
  have := h i (by omega)
  simp [Array.getD_eq_getD_getElem?, List.getD_eq_getElem?_getD, h1, show i < l.length by omega] at this
  simpa using this
theorem planNext_p (t : Task) (k : Look) (h0 : 0 ≤ t.state) : Pure Tryz.prog 42 [t.av, k.av] (.tup [(nextF t k).av, I t.err]) := by
  refine pure_of_calls Tryz.f42 Tryz.func42 rfl (by kernel_rfl) rfl rfl ?_
  intro F w vs hF hr
  have h1 := hr.2 0 _ rfl
  have h2 := hr.2 1 _ rfl
  have hs := hr.1
  obtain ⟨ts, e1, s1, c1⟩ := agg_cells h1
  obtain ⟨ks, e2, s2, c2⟩ := agg_cells h2
  obtain ⟨A, c, e3, hc, hsl⟩ := ints_of hF (c1 7 _ rfl)
  have et : ts = (Task.cells t A c) := by
    refine (cells_eq (l := (Task.cells t A c).toList) s1 ?_).trans (by simp)
    intro i hi
    match i, hi with
    | 0, _ => exact val_eq (c1 0 _ rfl)
    | 1, _ => exact val_eq (c1 1 _ rfl)
    | 2, _ => exact val_eq (c1 2 _ rfl)
    | 3, _ => exact val_eq (c1 3 _ rfl)
    | 4, _ => exact val_eq (c1 4 _ rfl)
    | 5, _ => exact val_eq (c1 5 _ rfl)
    | 6, _ => exact val_eq (c1 6 _ rfl)
    | 7, _ => exact e3
  have ek : ks = Look.cells k := by
    refine (cells_eq (l := (Look.cells k).toList) s2 ?_).trans (by simp)
    intro i hi
    match i, hi with
    | 0, _ => exact val_eq (c2 0 _ rfl)
    | 1, _ => exact val_eq (c2 1 _ rfl)
    | 2, _ => exact val_eq (c2 2 _ rfl)
    | 3, _ => exact val_eq (c2 3 _ rfl)
    | 4, _ => exact val_eq (c2 4 _ rfl)
    | 5, _ => exact val_eq (c2 5 _ rfl)
    | 6, _ => exact val_eq (c2 6 _ rfl)
    | 7, _ => exact val_eq (c2 7 _ rfl)
    | 8, _ => exact val_eq (c2 8 _ rfl)
    | 9, _ => exact val_eq (c2 9 _ rfl)
    | 10, _ => exact val_eq (c2 10 _ rfl)
    | 11, _ => exact val_eq (c2 11 _ rfl)
    | 12, _ => exact val_eq (c2 12 _ rfl)
    | 13, _ => exact val_eq (c2 13 _ rfl)
    | 14, _ => exact val_eq (c2 14 _ rfl)
  have ev : vs = #[t.val A c, k.val] := by
    refine (cells_eq (l := [t.val A c, k.val]) hs ?_)
    intro i hi
    match i, hi with
    | 0, _ => rw [e1, et]; rfl
    | 1, _ => rw [e2, ek]; rfl
  subst ev
  refine (next_any t k A c w hc.1 hc.2 hsl h0).mono ?_
  rintro e w' ⟨rfl, hB⟩
  refine ⟨_, rfl, hB, .tup _ _ rfl fun i x hi => ?_⟩
  match i, hi with
  | 0, hi =>
    simp at hi; subst hi
    refine .agg _ _ rfl fun j y hj => ?_
    match j, hj with
    | 0, hj => simp at hj; subst hj; exact .val _
    | 1, hj => simp at hj; subst hj; exact .val _
  | 1, hi => simp at hi; subst hi; exact .val _
end Go.Proofs.YtajpldeffhagaaaGreat
