/- Computing on: what a goal comes to, found by one tactic that stands here once. -/
import Derived.Test.YtdblhmpcilihnaaGreatEngB
namespace Go.Proofs.YtdblhmpcilihnaaGreat
open E
set_option linter.unusedVariables false
set_option linter.unusedSimpArgs false
theorem oneRows_of {X : List (List AV)} (h : (X.all fun r => r.all AV.one) = true) : oneRows X := fun row hr y hy => List.all_eq_true.1 (List.all_eq_true.1 h row hr) y hy
theorem onB_t {c : Bool} {A B : Prop} (h : c = true) (a : A) : onB c A B := by subst h; exact a
theorem onB_f {c : Bool} {A B : Prop} (h : c = false) (b : B) : onB c A B := by subst h; exact b
/-- Small numbers are as they are. -/
theorem wl : IntKind.i64.wrap 1 = 1 ∧ IntKind.i64.wrap 2 = 2 ∧ IntKind.i64.wrap 3 = 3 ∧ IntKind.i64.wrap 4 = 4 ∧ IntKind.i64.wrap 5 = 5 ∧ IntKind.i64.wrap 6 = 6 ∧ IntKind.i64.wrap 7 = 7 ∧ IntKind.i64.wrap 8 = 8 ∧ IntKind.i64.wrap 9 = 9 ∧ IntKind.i64.wrap 10 = 10 := by decide
theorem wrapS {n : Nat} (h : n < 9223372036854775807) : IntKind.i64.wrap ((n : Int) + 1) = ((n + 1 : Nat) : Int) := by
  unfold IntKind.wrap IntKind.signed IntKind.bits; simp; omega
theorem ble_t {a b : Nat} : (Nat.ble a b = true) = (a ≤ b) := propext ⟨Nat.le_of_ble_eq_true, Nat.ble_eq_true_of_le⟩
theorem ble_f {a b : Nat} : (Nat.ble a b = false) = (b < a) := by
  refine propext (Iff.intro (fun h => ?_) (fun h => ?_))
  · rcases Nat.lt_or_ge b a with h1 | h1
    · exact h1
    · rw [Nat.ble_eq_true_of_le h1] at h; cases h
  · cases c : Nat.ble a b
    · rfl
    · have := Nat.le_of_ble_eq_true c; omega
/-- What a goal comes to. -/
def GoTo (P Q : Prop) : Prop := Q → P
theorem GoTo.refl (P : Prop) : GoTo P P := id
theorem GoTo.start {P X : Prop} (h : GoTo P X) : GoTo P X := h
theorem GoTo.seq {n0 : Nat} {b : WpT} {Q : Exit → Fr → Hp → Prop} {fr : Fr} {H : Hp} {X : Prop} (h : GoTo (b Q fr H) X) : GoTo (SeqW n0 b Q fr H) X := fun x => SeqW.go (h x)
theorem GoTo.and {A B X : Prop} (a : A) (h : GoTo B X) : GoTo (A ∧ B) X := fun x => ⟨a, h x⟩
theorem GoTo.t {c : Bool} {A B X : Prop} (hc : c = true) (h : GoTo A X) : GoTo (onB c A B) X := fun x => onB_t hc (h x)
theorem GoTo.f {c : Bool} {A B X : Prop} (hc : c = false) (h : GoTo B X) : GoTo (onB c A B) X := fun x => onB_f hc (h x)
theorem goS {P Q : Prop} (q : Q) (e : GoTo P Q := by
  refine @GoTo.start _ ?_ ?_
  rotate_left 1
  (conv => lhs; whnf)
  repeat ((first
    | refine GoTo.seq ?_
    | refine GoTo.and trivial ?_
    | refine GoTo.and (And.intro (Nat.le_of_ble_eq_true rfl) (Nat.le_of_ble_eq_true rfl)) ?_
    | refine GoTo.and (And.intro (Nat.le_of_ble_eq_true rfl) (oneRows_of rfl)) ?_
    | refine GoTo.and (And.intro (Nat.eq_of_beq_eq_true rfl) (And.intro (oneRows_of rfl) (Nat.le_of_ble_eq_true rfl))) ?_
    | refine GoTo.and (Nat.le_of_ble_eq_true rfl) ?_
    | refine GoTo.and (And.intro (by omega) (by omega)) ?_
    | refine GoTo.and (by omega) ?_
    | refine GoTo.and (And.intro (by decide) (by decide)) ?_
    | refine GoTo.and rfl ?_
    | refine GoTo.t (by with_reducible assumption) ?_
    | refine GoTo.f (by with_reducible assumption) ?_) <;> (conv => lhs; whnf))
  exact GoTo.refl _) : P := e q
/-- A test, and what each way knows of it. -/
theorem bnS {c : Bool} {A B p q : Prop} (a : c = true → p → A) (b : c = false → q → B)
  (hp : c = true → p := by first | (intro h; simp [-List.getD_eq_getElem?_getD, wl, ble_t, ble_f, List.getD_cons_zero, List.getD_cons_succ] at h; exact h) | exact fun h => (by simp [-List.getD_eq_getElem?_getD, wl, ble_t, ble_f, List.getD_cons_zero, List.getD_cons_succ] at h : False) | exact fun h => h)
  (hq : c = false → q := by first | (intro h; simp [-List.getD_eq_getElem?_getD, wl, ble_t, ble_f, List.getD_cons_zero, List.getD_cons_succ] at h; exact h) | exact fun h => (by simp [-List.getD_eq_getElem?_getD, wl, ble_t, ble_f, List.getD_cons_zero, List.getD_cons_succ] at h : False) | exact fun h => h) : onB c A B :=
  onB_mk (fun h => a h (hp h)) (fun h => b h (hq h))
end Go.Proofs.YtdblhmpcilihnaaGreat
