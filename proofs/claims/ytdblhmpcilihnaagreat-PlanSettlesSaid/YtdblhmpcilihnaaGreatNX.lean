/- plan.Next as a contract of the engine's, out of the old one. The two ways to say that a task is good, and what is next, agree. What is next, by the program's rules and by the reference: the same. That law31 is awake. -/
import Derived.Test.YtdblhmpcilihnaaGreatConv
import Derived.Test.YtdblhmpcilihnaaGreatPlanNext2
import Derived.Test.YtdblhmpcilihnaaGreatPlanPure
import Derived.Test.YtdblhmpcilihnaaGreatEP
import Derived.Test.YtdblhmpcilihnaaGreatTaskCheck
namespace Go.Proofs.YtdblhmpcilihnaaGreat
open Go.RowKit E
set_option maxRecDepth 100000
set_option linter.unusedVariables false
set_option linter.unusedSimpArgs false
theorem cells_eq {vs : Array Value} {l : List Value} (hl : vs.size = l.length) (h : ∀ i, i < l.length → vs.getD i undef = l.getD i undef) : vs = l.toArray := by
  apply Array.ext (by simpa using hl)
  intro i h1 h2
  have := h i (by omega)
  simp [Array.getD_eq_getD_getElem?, List.getD_eq_getElem?_getD, h1, show i < l.length by omega] at this
  simpa using this
theorem planNext_p (t : Task) (k : Look) (h0 : 0 ≤ t.state) : Pure Tryz.prog 45 [t.av, k.av] (.tup [(nextF t k).av, I t.err]) := by
  refine pure_of_calls Tryz.f45 Tryz.func45 rfl (by kernel_rfl) rfl rfl ?_
  intro F w vs hF hr
  have h1 := hr.2 0 _ rfl
  have h2 := hr.2 1 _ rfl
  have hs := hr.1
  obtain ⟨ts, e1, s1, c1⟩ := agg_cells h1
  obtain ⟨ks, e2, s2, c2⟩ := agg_cells h2
  obtain ⟨A, c, e3, hc, hsl⟩ := ints_of hF (c1 7 _ rfl)
  have et : ts = (Task.cells t A c) := by
    refine (cells_eq (l := (Task.cells t A c).toList) s1 ?_).trans (by simp)
    intro i hi
    match i, hi with
    | 0, _ => exact val_eq (c1 0 _ rfl)
    | 1, _ => exact val_eq (c1 1 _ rfl)
    | 2, _ => exact val_eq (c1 2 _ rfl)
    | 3, _ => exact val_eq (c1 3 _ rfl)
    | 4, _ => exact val_eq (c1 4 _ rfl)
    | 5, _ => exact val_eq (c1 5 _ rfl)
    | 6, _ => exact val_eq (c1 6 _ rfl)
    | 7, _ => exact e3
  have ek : ks = Look.cells k := by
    refine (cells_eq (l := (Look.cells k).toList) s2 ?_).trans (by simp)
    intro i hi
    match i, hi with
    | 0, _ => exact val_eq (c2 0 _ rfl)
    | 1, _ => exact val_eq (c2 1 _ rfl)
    | 2, _ => exact val_eq (c2 2 _ rfl)
    | 3, _ => exact val_eq (c2 3 _ rfl)
    | 4, _ => exact val_eq (c2 4 _ rfl)
    | 5, _ => exact val_eq (c2 5 _ rfl)
    | 6, _ => exact val_eq (c2 6 _ rfl)
    | 7, _ => exact val_eq (c2 7 _ rfl)
    | 8, _ => exact val_eq (c2 8 _ rfl)
    | 9, _ => exact val_eq (c2 9 _ rfl)
    | 10, _ => exact val_eq (c2 10 _ rfl)
    | 11, _ => exact val_eq (c2 11 _ rfl)
    | 12, _ => exact val_eq (c2 12 _ rfl)
    | 13, _ => exact val_eq (c2 13 _ rfl)
    | 14, _ => exact val_eq (c2 14 _ rfl)
  have ev : vs = #[t.val A c, k.val] := by
    refine (cells_eq (l := [t.val A c, k.val]) hs ?_)
    intro i hi
    match i, hi with
    | 0, _ => rw [e1, et]; rfl
    | 1, _ => rw [e2, ek]; rfl
  subst ev
  refine (next_any t k A c w hc.1 hc.2 hsl h0).mono ?_
  rintro e w' ⟨rfl, hB⟩
  refine ⟨_, rfl, hB, .tup _ _ rfl fun i x hi => ?_⟩
  match i, hi with
  | 0, hi =>
    simp at hi; subst hi
    refine .agg _ _ rfl fun j y hj => ?_
    match j, hj with
    | 0, hj => simp at hj; subst hj; exact .val _
    | 1, hj => simp at hj; subst hj; exact .val _
  | 1, hi => simp at hi; subst hi; exact .val _
theorem startsTo_good (l : List Int) : ∀ k, startsTo l k = true ↔ ∀ j, j < k → goodAt l j
  | 0 => ⟨fun _ j h => absurd h (Nat.not_lt_zero _), fun _ => rfl⟩
  | k + 1 => by
    have h1 : startOk l k (l.getD k 0) = true ↔ goodAt l k := by
      unfold startOk goodAt inB mTick
      simp only [Bool.and_eq_true, Bool.or_eq_true, decide_eq_true_eq, beq_iff_eq]
      refine ⟨fun h => ⟨h.1, fun h2 => by omega⟩, fun h => ⟨h.1, ?_⟩⟩
      by_cases c : k = 0
      · left; omega
      · right; exact h.2 (by omega)
    unfold startsTo
    rw [Bool.and_eq_true, startsTo_good l k, h1, all_succ]
theorem ok_good (t : Task) : t.ok = true ↔ goodF t.state t.inc t.pid t.nonce t.due t.until_ t.code t.starts := by
  have hS := startsTo_good t.starts t.starts.length
  generalize startsTo t.starts t.starts.length = q at hS
  have hb : t.ok = (t.b6 (t.b5 (t.b4 (t.b3 (t.b1 && startsTo t.starts t.starts.length))))) := rfl
  unfold Task.ok Task.b6 Task.b5 Task.b4 Task.b3 Task.b1 Task.has onlyB inB mTick mTick2
  constructor
  · intro h
    have hq : startsTo t.starts t.starts.length = true := by
      by_cases c1 : (t.state == 0) = true <;> by_cases c2 : (t.inc == 0) = true <;> simp only [c1, c2, if_true, if_false, Bool.and_eq_true, Bool.false_eq_true, Bool.true_eq_false] at h
      · exact h.1.1.1.1.2
      · exact h.1.1.1.2
      · exact h.1.1.1.2
      · exact h.1.1.2
    have hall := (startsTo_good _ _).1 hq
    clear hS hb
    by_cases c1 : t.state = 0 <;> by_cases c2 : t.inc = 0 <;> by_cases c3 : t.starts.length = 0 <;> simp [c1, c2, c3, hq, -List.length_eq_zero_iff] at h
    all_goals exact ⟨by omega, by omega, by omega, by omega, by omega, hall, by omega, by omega, by omega, by omega, by omega, by omega⟩
  · intro g
    have hq : startsTo t.starts t.starts.length = true := (startsTo_good _ _).2 g.h_srt
    have h1 := g.h_st; have h2 := g.h_inc0; have h3 := g.h_inc1; have h4 := g.h_len; have h5 := g.h_emp; have h6 := g.h_pend; have h7 := g.h_none; have h8 := g.h_pid; have h9 := g.h_nonce; have h10 := g.h_due; have h11 := g.h_until_
    clear g hS hb
    rw [hq]
    by_cases c1 : t.state = 0 <;> by_cases c2 : t.inc = 0 <;> by_cases c3 : t.starts.length = 0 <;> simp [c1, c2, c3, bb, -List.length_eq_zero_iff]
    all_goals omega
theorem err_same (t : Task) : t.err = errT t := by
  unfold Task.err errT
  by_cases h : t.ok = true
  · rw [if_pos h, errF_yes ((ok_good t).1 h)]
  · rw [if_neg h, errF_no fun hg => h ((ok_good t).2 hg)]
theorem next_same (t : Task) (k : Look) (h0 : 0 ≤ t.state) : nextF t k = (if errT t = 0 then nextG t k else ⟨0, 0⟩) := by
  by_cases h : t.ok = true
  · have he : errT t = 0 := errF_yes ((ok_good t).1 h)
    have h7 := errT_le he
    rw [if_pos he]
    unfold nextF nextG ruleF startF withF live4 live5 live6 live7 firstF liveG
    rw [if_pos h]
    have hs : t.state = 0 ∨ t.state = 1 ∨ t.state = 2 ∨ t.state = 3 ∨ t.state = 4 ∨ t.state = 5 ∨ t.state = 6 ∨ t.state = 7 := by omega
    obtain ⟨now, expired, fenced, sick, has, ⟨pid, nonce, token, alive, term, kill, code⟩, other⟩ := k
    rcases hs with hs | hs | hs | hs | hs | hs | hs | hs <;> simp only [hs]
    · cases expired <;> cases other <;> simp
    · cases has <;> cases alive <;> cases fenced <;> simp
    · cases has <;> cases alive <;> cases fenced <;> cases sick <;> simp
    · cases expired <;> cases other <;> simp
      by_cases c : now < t.due
      · simp [c, show ¬ t.due ≤ now by omega]
      · simp [c, show t.due ≤ now by omega]
    · cases has <;> cases alive <;> cases fenced <;> cases term <;> simp
    · cases has <;> cases alive <;> cases kill <;> simp
    · simp
    · simp
  · have he : errT t = 2 := errF_no fun hg => h ((ok_good t).2 hg)
    unfold nextF
    rw [if_neg h, if_neg (by rw [he]; decide)]
theorem awake31_p : Pure Tryz.prog 47 [] (B true) := by
  have hN := planNext_p ⟨0, 0, 0, 0, 0, 0, 0, []⟩ ⟨4, false, false, false, false, ⟨0, 0, ⟨0, 0, 0⟩, false, false, false, 0⟩, false⟩ (Int.le_refl _)
  have e1 : nextF ⟨0, 0, 0, 0, 0, 0, 0, []⟩ ⟨4, false, false, false, false, ⟨0, 0, ⟨0, 0, 0⟩, false, false, false, 0⟩, false⟩ = ⟨1, 0⟩ := by kernel_rfl
  have e2 : Task.err ⟨0, 0, 0, 0, 0, 0, 0, []⟩ = 0 := by decide +kernel
  rw [e1, e2] at hN
  refine Pure.ev Tryz.f47 mx Tryz.func47 (by kernel_rfl) rfl rfl rfl ?_ <;> (refine goS ?_ <;> repeat (intro _ <;> refine goS ?_))
  refine Pure.call (pure_nz hN rfl ?_) ?_
  · repeat' (first | exact rfl | exact trivial | (refine And.intro ?_ ?_) | (conv => whnf))
  (refine goS ?_ <;> repeat (intro _ <;> refine goS ?_))
  (rw [evN_cmp]; rotate_left 1; (focus kernel_rfl)) <;> (refine goS ?_ <;> repeat (intro _ <;> refine goS ?_))
  exact ret_now _ rfl
end Go.Proofs.YtdblhmpcilihnaaGreat
