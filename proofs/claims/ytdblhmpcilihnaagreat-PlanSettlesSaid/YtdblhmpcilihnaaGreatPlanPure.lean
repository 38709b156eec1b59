/- What plan.Next returns: its cases, without a program. -/
import Derived.Test.YtdblhmpcilihnaaGreatPlanNext2
set_option maxRecDepth 100000
namespace Go.Proofs.YtdblhmpcilihnaaGreat
open Go.ChangeShapes Go.WideShapes Go.ChangeAt Go.RowKit
set_option linter.unusedVariables false
set_option linter.unusedSimpArgs false
theorem bq_no {a b : Int} (h : a ≠ b) : (a == b) = false ∧ (a != b) = true := by
  have : (a == b) = false := by simpa using h
  exact ⟨this, by simp [bne, this]⟩
theorem bq_yes {a b : Int} (h : a = b) : (a == b) = true ∧ (a != b) = false := by
  have : (a == b) = true := by simpa using h
  exact ⟨this, by simp [bne, this]⟩
theorem next_over {t : Task} {k : Look} (h : 5 < t.state) : nextF t k = ⟨0, 0⟩ := by
  unfold nextF; split
  · rw [if_neg (by omega)]
  · rfl
theorem next_wait {t : Task} {k : Look} (hok : t.ok = true) (h : t.state = 0 ∨ t.state = 3) : nextF t k = startF t k := by
  unfold nextF
  rw [if_pos hok, if_pos (by omega)]
  unfold ruleF
  rw [if_pos h]
theorem start_cases (t : Task) (k : Look) : startF t k = ⟨0, 0⟩ ∨ (startF t k = ⟨1, 0⟩ ∧ k.expired = false ∧ k.other = false) := by
  unfold startF
  cases h1 : k.expired <;> cases h2 : k.other <;> simp
  intro _; omega
/-- What is done in a state with a live process. -/
def liveF (s : Int) (t : Task) (k : Look) : Int := if s = 1 then live4 t k else if s = 2 then live5 t k else if s = 4 then live6 t k else live7 t k
theorem next_live {t : Task} {k : Look} (hok : t.ok = true) (h0 : 0 ≤ t.state) (h : t.state ≤ 5) (n0 : t.state ≠ 0) (n3 : t.state ≠ 3) : nextF t k = withF (liveF t.state) t k := by
  unfold nextF
  rw [if_pos hok, if_pos h]
  unfold ruleF
  rw [if_neg (by omega)]
  have hs : t.state = 1 ∨ t.state = 2 ∨ t.state = 4 ∨ t.state = 5 := by omega
  rcases hs with hs | hs | hs | hs
  · rw [if_pos hs]; simp [withF, liveF, hs]
  · rw [if_neg (by omega), if_pos hs]; simp [withF, liveF, hs]
  · rw [if_neg (by omega), if_neg (by omega), if_pos hs]; simp [withF, liveF, hs]
  · rw [if_neg (by omega), if_neg (by omega), if_neg (by omega)]; simp [withF, liveF, hs]
theorem live_vals (s : Int) (t : Task) (k : Look) : (liveF s t k ≠ 1 ∧ liveF s t k ≠ 3) ∧ (k.fenced = true → s ≠ 5 → (s = 1 ∨ s = 2 ∨ s = 4) → liveF s t k = 4) := by
  unfold liveF live4 live5 live6 live7 firstF
  refine ⟨?_, ?_⟩
  · cases k.fenced <;> cases k.sick <;> cases k.proc.term <;> cases k.proc.kill <;> cases decide (t.until_ ≤ k.now) <;> simp <;> (repeat' split) <;> simp
  · intro hf h5 hs
    rcases hs with rfl | rfl | rfl <;> simp [hf]
theorem over_yes {s : Int} (h : s = 6 ∨ s = 7) : ((s == 6) || (s == 7)) = true := by rcases h with rfl | rfl <;> rfl
def overB0 (s : Int) : Bool := (s == 6) || (s == 7)
theorem taskOver_any (s : Int) (w : World) : Calls Tryz.prog 48 #[.int .u8 s] w fun e w' => e = .returned (.bool (overB0 s)) ∧ w = w' := by
  unfold overB0
  cases h1 : (s == 6)
  all_goals
    go_enter Tryz.func48, Tryz.ntmps48
    go_wp2_with fail
    go_ret
    exact ⟨rfl, rfl⟩
theorem awake31_any (w : World) : Calls Tryz.prog 47 #[] w fun e w' => e = .returned (.bool true) ∧ Below w.heap.size w w' := by
  have hN := fun W : World => next_any ⟨0, 0, 0, 0, 0, 0, 0, []⟩ ⟨4, false, false, false, false, ⟨0, 0, ⟨0, 0, 0⟩, false, false, false, 0⟩, false⟩ none 0 W (Nat.le_refl _) (Nat.zero_le _) (Kn.Sl.nil _ _ _) (Int.le_refl _)
  have e1 : nextF ⟨0, 0, 0, 0, 0, 0, 0, []⟩ ⟨4, false, false, false, false, ⟨0, 0, ⟨0, 0, 0⟩, false, false, false, 0⟩, false⟩ = ⟨1, 0⟩ := by kernel_rfl
  have e2 : Task.err ⟨0, 0, 0, 0, 0, 0, 0, []⟩ = 0 := by decide +kernel
  rw [e1, e2] at hN
  have HN := Lib.hid hN
  clear hN e1 e2
  go_enter Tryz.func47, Tryz.ntmps47
  go_wp2_with fail
  refine (HN.out _).mono ?_
  rintro e w1 ⟨rfl, hb⟩
  have hz := hb.size
  simp only [Step.val]
  go_wp2_with fail
  go_ret
  exact ⟨rfl, (by repeat (first | with_reducible exact Below.refl _ _ | with_reducible assumption | with_reducible refine Below.alloc ?_ (by first | omega | (simp; done) | (simp; omega)) _ | with_reducible refine Below.setCell ?_ (by first | omega | (simp; done) | (simp; omega)) _ | with_reducible refine Below.drew ?_ | with_reducible refine below_drewN ?_ _ | with_reducible refine Below.next ?_ (by with_reducible assumption)))⟩
end Go.Proofs.YtdblhmpcilihnaaGreat
