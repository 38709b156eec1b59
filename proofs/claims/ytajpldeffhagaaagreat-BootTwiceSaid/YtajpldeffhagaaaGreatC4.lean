/- spec.Check: printed by gen_spec.py. -/
import Derived.Test.YtajpldeffhagaaaGreatC3
namespace Go.Proofs.YtajpldeffhagaaaGreat
open Go.RowKit E
set_option maxRecDepth 100000
set_option linter.unusedVariables false
set_option linter.unusedSimpArgs false
def spF (s : Spec) : Nat → Prop
  | 0 => inR s.id 0 2147483648
  | 1 => s.res.ok
  | 2 => checkF s.ports = 0
  | 3 => s.tasks.length ≠ 0 ∧ s.tasks.length ≤ 4
  | 4 => (s.tasks.getD 0 default).policy.ok
  | 5 => inR (s.tasks.getD 0 default).probes 0 1000
  | 6 => (s.tasks.getD 1 default).policy.ok
  | 7 => inR (s.tasks.getD 1 default).probes 0 1000
  | 8 => (s.tasks.getD 2 default).policy.ok
  | 9 => inR (s.tasks.getD 2 default).probes 0 1000
  | 10 => (s.tasks.getD 3 default).policy.ok
  | 11 => inR (s.tasks.getD 3 default).probes 0 1000
  | _ => True
theorem spF_step {s : Spec} {k : Nat} (h : ∀ j, j < k → spF s j) (hk : spF s k) : ∀ j, j < k + 1 → spF s j := fun j hj => by
  rcases Nat.lt_succ_iff_lt_or_eq.1 hj with h1 | rfl
  · exact h j h1
  · exact hk
theorem specE_4 {s : Spec} (h : ∀ j, j < 4 → spF s j) : specE s = eUn (tsOk s.tasks) 3 := by
  have h0 : inR s.id 0 2147483648 := h 0 (by decide)
  have h1 : s.res.ok := h 1 (by decide)
  have h2 : checkF s.ports = 0 := h 2 (by decide)
  have h3 : s.tasks.length ≠ 0 ∧ s.tasks.length ≤ 4 := h 3 (by decide)
  unfold specE
  rw [if_neg (not_not_intro h0), if_neg (not_not_intro h1), if_neg (not_not_intro h2), if_neg h3.1, if_neg (by have := h3.2; omega)]
theorem leaf_ts {s : Spec} {k : Nat} (j : Nat) (hc : ∀ j, j < k → spF s j) (hk : 4 ≤ k) (hj : j < s.tasks.length) (h : ¬ (s.tasks.getD j default).ok) {X : Prop} [Decidable X] (hx : ¬ eUn X 3 = 0) : I (eUn X 3) = I (specE s) := by
  rw [specE_4 fun j hj => hc j (by omega), eUn_n (ts_no hj h), eUn_n fun h => hx (eUn_y h)]
theorem leaf_0 {s : Spec} {X : Prop} [Decidable X] (e : X = spF s 0) (hx : ¬ eUn X 3 = 0) : I (eUn X 3) = I (specE s) := by
  have h : ¬ X := fun h => hx (eUn_y h)
  rw [eUn_n h]
  unfold specE
  rw [if_pos (by rw [e] at h; exact h)]
theorem leaf_1 {s : Spec} (hc : ∀ j, j < 1 → spF s j) {X : Prop} [Decidable X] (e : X = spF s 1) (hx : ¬ eUn X 3 = 0) : I (eUn X 3) = I (specE s) := by
  have h : ¬ X := fun h => hx (eUn_y h)
  rw [eUn_n h]
  unfold specE
  rw [if_neg (not_not_intro (show inR s.id 0 2147483648 from hc 0 (by decide))), if_pos (by rw [e] at h; exact h)]
theorem leaf_2 {s : Spec} (hc : ∀ j, j < 2 → spF s j) (hx : ¬ checkF s.ports = 0) : I (checkF s.ports) = I (specE s) := by
  unfold specE
  rw [if_neg (not_not_intro (show inR s.id 0 2147483648 from hc 0 (by decide))), if_neg (not_not_intro (show s.res.ok from hc 1 (by decide))), if_pos hx]
theorem leaf_3a {s : Spec} (hc : ∀ j, j < 3 → spF s j) (hx : s.tasks.length = 0) : I 2 = I (specE s) := by
  unfold specE
  rw [if_neg (not_not_intro (show inR s.id 0 2147483648 from hc 0 (by decide))), if_neg (not_not_intro (show s.res.ok from hc 1 (by decide))), if_neg (not_not_intro (show checkF s.ports = 0 from hc 2 (by decide))), if_pos hx]
theorem leaf_3b {s : Spec} (hc : ∀ j, j < 3 → spF s j) (hx : 4 < s.tasks.length) : I 5 = I (specE s) := by
  unfold specE
  rw [if_neg (not_not_intro (show inR s.id 0 2147483648 from hc 0 (by decide))), if_neg (not_not_intro (show s.res.ok from hc 1 (by decide))), if_neg (not_not_intro (show checkF s.ports = 0 from hc 2 (by decide))), if_neg (by omega), if_pos hx]
theorem leaf_end {s : Spec} (hc : ∀ j, j < 4 + 2 * s.tasks.length → spF s j) (h4 : s.tasks.length ≤ 4) : I 0 = I (specE s) := by
  rw [specE_4 fun j hj => hc j (by omega), eUn_y]
  refine (tsTo_all _).1 fun j hj => ?_
  have h1 : j = 0 ∨ j = 1 ∨ j = 2 ∨ j = 3 := by omega
  rcases h1 with rfl | rfl | rfl | rfl
  · exact ⟨hc 4 (by omega), hc 5 (by omega)⟩
  · exact ⟨hc 6 (by omega), hc 7 (by omega)⟩
  · exact ⟨hc 8 (by omega), hc 9 (by omega)⟩
  · exact ⟨hc 10 (by omega), hc 11 (by omega)⟩
def cl2 (f : FuncId) (b : Nat) : List AV := [.fn (.func f) [] [.hptr b 6 0 0]]
end Go.Proofs.YtajpldeffhagaaaGreat
