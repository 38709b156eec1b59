/- That law31 is awake. -/
import Derived.Test.YtajpldeffhagaaaGreatNext
namespace Go.Proofs.YtajpldeffhagaaaGreat
open Go.RowKit E
set_option maxRecDepth 100000
set_option linter.unusedVariables false
theorem pure_nz {P : Program} {g : FuncId} {args args' : List AV} {r : AV} (h : E.Pure P g args r) (hf : freeL args' = true) (hz : FzL (NzR 4) args' args) : E.Pure P g args' r := by
  obtain ⟨hl, hz⟩ := FzL_get hz
  exact ⟨⟨h.run.ok, fun σ F w vs hw hr => h.run.run σ F w vs hw ⟨hr.1.trans hl, fun i x hx => by obtain ⟨a, ha, hab⟩ := hz i x hx; exact AR.nz 4 a x _ hab (hr.2 i a ha)⟩⟩, hf, h.fr⟩
theorem awake31_p : Pure Tryz.prog 22 [] (B true) := by
  have hN := planNext_p ⟨0, 0, 0, 0, 0, 0, 0, []⟩ ⟨4, false, false, false, false, ⟨0, 0, ⟨0, 0, 0⟩, false, false, false, 0⟩, false⟩ (Int.le_refl _)
  have e1 : nextF ⟨0, 0, 0, 0, 0, 0, 0, []⟩ ⟨4, false, false, false, false, ⟨0, 0, ⟨0, 0, 0⟩, false, false, false, 0⟩, false⟩ = ⟨1, 0⟩ := by kernel_rfl
  have e2 : Task.err ⟨0, 0, 0, 0, 0, 0, 0, []⟩ = 0 := by decide +kernel
  rw [e1, e2] at hN
  refine Pure.ev Tryz.f22 mx Tryz.func22 (by kernel_rfl) rfl rfl rfl ?_ <;> (conv => whnf) <;> repeat ((first | refine SeqW.go ?_ | refine And.intro trivial ?_ | refine And.intro (And.intro (Nat.le_of_ble_eq_true rfl) (Nat.le_of_ble_eq_true rfl)) ?_ | refine And.intro (And.intro (Nat.le_of_ble_eq_true rfl) (oneRows_of rfl)) ?_ | refine And.intro (And.intro (Nat.eq_of_beq_eq_true rfl) (And.intro (oneRows_of rfl) (Nat.le_of_ble_eq_true rfl))) ?_ | refine And.intro (Nat.le_of_ble_eq_true rfl) ?_ | refine And.intro (And.intro (by omega) (by omega)) ?_ | refine And.intro (by omega) ?_ | refine And.intro (And.intro (by decide) (by decide)) ?_ | intro _ | refine And.intro rfl ?_ | refine onB_t (by with_reducible assumption) ?_ | refine onB_f (by with_reducible assumption) ?_) <;> (conv => whnf))
  refine Pure.call (pure_nz hN rfl ?_) ?_
  · repeat' (first | exact rfl | exact trivial | (refine And.intro ?_ ?_) | (conv => whnf))
  (conv => whnf) <;> repeat ((first | refine SeqW.go ?_ | refine And.intro trivial ?_ | refine And.intro (And.intro (Nat.le_of_ble_eq_true rfl) (Nat.le_of_ble_eq_true rfl)) ?_ | refine And.intro (And.intro (Nat.le_of_ble_eq_true rfl) (oneRows_of rfl)) ?_ | refine And.intro (And.intro (Nat.eq_of_beq_eq_true rfl) (And.intro (oneRows_of rfl) (Nat.le_of_ble_eq_true rfl))) ?_ | refine And.intro (Nat.le_of_ble_eq_true rfl) ?_ | refine And.intro (And.intro (by omega) (by omega)) ?_ | refine And.intro (by omega) ?_ | refine And.intro (And.intro (by decide) (by decide)) ?_ | intro _ | refine And.intro rfl ?_ | refine onB_t (by with_reducible assumption) ?_ | refine onB_f (by with_reducible assumption) ?_) <;> (conv => whnf))
  (rw [evN_cmp]; rotate_left 1; (focus kernel_rfl)) <;> (conv => whnf) <;> repeat ((first | refine SeqW.go ?_ | refine And.intro trivial ?_ | refine And.intro (And.intro (Nat.le_of_ble_eq_true rfl) (Nat.le_of_ble_eq_true rfl)) ?_ | refine And.intro (And.intro (Nat.le_of_ble_eq_true rfl) (oneRows_of rfl)) ?_ | refine And.intro (And.intro (Nat.eq_of_beq_eq_true rfl) (And.intro (oneRows_of rfl) (Nat.le_of_ble_eq_true rfl))) ?_ | refine And.intro (Nat.le_of_ble_eq_true rfl) ?_ | refine And.intro (And.intro (by omega) (by omega)) ?_ | refine And.intro (by omega) ?_ | refine And.intro (And.intro (by decide) (by decide)) ?_ | intro _ | refine And.intro rfl ?_ | refine onB_t (by with_reducible assumption) ?_ | refine onB_f (by with_reducible assumption) ?_) <;> (conv => whnf))
  exact ret_now _ rfl
end Go.Proofs.YtajpldeffhagaaaGreat
