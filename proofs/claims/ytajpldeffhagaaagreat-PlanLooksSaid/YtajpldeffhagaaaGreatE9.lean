/- Records (layer 31): the program's and the reference's. -/
import Derived.Test.YtajpldeffhagaaaGreatE8
namespace Go.Proofs.YtajpldeffhagaaaGreat
open Go.RowKit E
set_option maxRecDepth 100000
set_option linter.unusedVariables false
set_option linter.unusedSimpArgs false
def NzR : Nat → AV → AV → Prop
  | 0, x, y => x = y
  | d + 1, x, y => match x, y with
    | .agg l, .agg m => FzL (NzR d) l m
    | .tup l, .tup m => FzL (NzR d) l m
    | .val (.slice none 0 0), .sl sz n f => n = 0
    | x, y => x = y
theorem AR.nz {N : Nat} {σ : Sg} {F : Nat → Prop} {w : World} : ∀ (d : Nat) (x y : AV) (v : Value), NzR d x y → AR N σ F w x v → AR N σ F w y v := by
  intro d
  induction d with
  | zero => intro x y v e h; cases e; exact h
  | succ d ih =>
    intro x y v e h
    unfold NzR at e
    split at e
    · cases h with
      | agg _ vs hl hh => obtain ⟨e1, e2⟩ := FzL_get e; exact .agg _ vs (by omega) fun i b hb => by obtain ⟨a, ha, hab⟩ := e2 i b hb; exact ih a b _ hab (hh i a ha)
    · cases h with
      | tup _ vs hl hh => obtain ⟨e1, e2⟩ := FzL_get e; exact .tup _ vs (by omega) fun i b hb => by obtain ⟨a, ha, hab⟩ := e2 i b hb; exact ih a b _ hab (hh i a ha)
    · subst e
      cases h
      exact .sl _ _ _ _ (.sl _ _ _ none 0 (fun _ _ => undef) 0 0 (by simp) (fun h => absurd h (by omega)) (fun i hi => absurd hi (by omega)) (fun i j hi => absurd hi (by omega)) (fun i j x hi => absurd hi (by omega)))
    · cases e; exact h
theorem ret_nz {n0 : Nat} {x x1 : AV} {H : Hp} {K : AV → Hp → Prop} (hx : NzR 4 x x1) (hk : K x1 H) : ∃ x1 H1, Wk n0 [(0, x)] H [(0, x1)] H1 ∧ K x1 H1 :=
  ⟨x1, H, ⟨fun σ F w tmps hn hw hfr => ⟨σ, F, Ext.refl hn, hw, fun s => by
    have := hfr s
    rw [look_cons] at this ⊢
    by_cases c : 0 = s
    · rw [if_pos c] at this ⊢; exact AR.nz 4 _ _ _ hx this
    · rw [if_neg c] at this ⊢; exact this⟩⟩, hk⟩
def thereB (s : State) (a t : Int) : Bool := decide ((0 ≤ a ∧ a < s.allocs.length) ∧ 0 ≤ t ∧ t < (s.allocs.getD a.toNat default).tasks.length)
theorem there_p (s : State) (a t : Int) : Pure Tryz.prog 35 [s.av, I a, I t] (B (thereB s a t)) := by
  refine Pure.ev Tryz.f35 mx Tryz.func35 (by kernel_rfl) rfl rfl rfl ?_ <;> (conv => whnf) <;> repeat (first | (refine SeqW.go ?_ <;> (conv => whnf)) | (refine And.intro trivial ?_ <;> (conv => whnf)) | (refine And.intro (And.intro (Nat.le_of_ble_eq_true rfl) (Nat.le_of_ble_eq_true rfl)) ?_ <;> (conv => whnf)) | (refine And.intro (And.intro (Nat.le_of_ble_eq_true rfl) (oneRows_of rfl)) ?_ <;> (conv => whnf)) | (refine And.intro (And.intro (Nat.eq_of_beq_eq_true rfl) (And.intro (oneRows_of rfl) (Nat.le_of_ble_eq_true rfl))) ?_ <;> (conv => whnf)) | (refine And.intro (Nat.le_of_ble_eq_true rfl) ?_ <;> (conv => whnf)) | (refine And.intro (And.intro (by omega) (by omega)) ?_ <;> (conv => whnf)) | (refine And.intro (by omega) ?_ <;> (conv => whnf)) | (refine And.intro (And.intro (by decide) (by decide)) ?_ <;> (conv => whnf)) | (intro _ <;> (conv => whnf)) | (refine And.intro rfl ?_ <;> (conv => whnf)) | (refine onB_t (by with_reducible assumption) ?_ <;> (conv => whnf)) | (refine onB_f (by with_reducible assumption) ?_ <;> (conv => whnf)))
  repeat' (refine onB_mk (fun h => ?_) (fun h => ?_) <;> (try rw [h]) <;> (try simp only [decide_eq_true_eq, decide_eq_false_iff_not, beq_iff_eq, beq_eq_false_iff_ne, bne_iff_ne, bne_eq_false_iff_eq, ne_eq, Int.not_lt, Int.not_le, gt_iff_lt, ge_iff_le, Int.ofNat_lt, Int.natCast_inj] at h) <;> (conv => whnf) <;> repeat (first | (refine SeqW.go ?_ <;> (conv => whnf)) | (refine And.intro trivial ?_ <;> (conv => whnf)) | (refine And.intro (And.intro (Nat.le_of_ble_eq_true rfl) (Nat.le_of_ble_eq_true rfl)) ?_ <;> (conv => whnf)) | (refine And.intro (And.intro (Nat.le_of_ble_eq_true rfl) (oneRows_of rfl)) ?_ <;> (conv => whnf)) | (refine And.intro (And.intro (Nat.eq_of_beq_eq_true rfl) (And.intro (oneRows_of rfl) (Nat.le_of_ble_eq_true rfl))) ?_ <;> (conv => whnf)) | (refine And.intro (Nat.le_of_ble_eq_true rfl) ?_ <;> (conv => whnf)) | (refine And.intro (And.intro (by omega) (by omega)) ?_ <;> (conv => whnf)) | (refine And.intro (by omega) ?_ <;> (conv => whnf)) | (refine And.intro (And.intro (by decide) (by decide)) ?_ <;> (conv => whnf)) | (intro _ <;> (conv => whnf)) | (refine And.intro rfl ?_ <;> (conv => whnf)) | (refine onB_t (by with_reducible assumption) ?_ <;> (conv => whnf)) | (refine onB_f (by with_reducible assumption) ?_ <;> (conv => whnf))))
  all_goals (refine ret_now _ ?_)
  all_goals first
    | exact congrArg (fun b => B b) (show decide (t < (s.allocs.getD a.toNat default).tasks.length) = thereB s a t from decide_eq_decide.2 ⟨fun h => ⟨⟨by omega, by omega⟩, by omega, h⟩, fun h => h.2.2⟩)
    | exact congrArg (fun b => B b) (show false = thereB s a t from (decide_eq_false (by omega)).symm)
theorem refThere_p (s : State) (a t : Int) : Pure Tryz.prog 38 [s.av, I a, I t] (B (thereB s a t)) := by
  refine Pure.ev Tryz.f38 mx Tryz.func38 (by kernel_rfl) rfl rfl rfl ?_ <;> (conv => whnf) <;> repeat (first | (refine SeqW.go ?_ <;> (conv => whnf)) | (refine And.intro trivial ?_ <;> (conv => whnf)) | (refine And.intro (And.intro (Nat.le_of_ble_eq_true rfl) (Nat.le_of_ble_eq_true rfl)) ?_ <;> (conv => whnf)) | (refine And.intro (And.intro (Nat.le_of_ble_eq_true rfl) (oneRows_of rfl)) ?_ <;> (conv => whnf)) | (refine And.intro (And.intro (Nat.eq_of_beq_eq_true rfl) (And.intro (oneRows_of rfl) (Nat.le_of_ble_eq_true rfl))) ?_ <;> (conv => whnf)) | (refine And.intro (Nat.le_of_ble_eq_true rfl) ?_ <;> (conv => whnf)) | (refine And.intro (And.intro (by omega) (by omega)) ?_ <;> (conv => whnf)) | (refine And.intro (by omega) ?_ <;> (conv => whnf)) | (refine And.intro (And.intro (by decide) (by decide)) ?_ <;> (conv => whnf)) | (intro _ <;> (conv => whnf)) | (refine And.intro rfl ?_ <;> (conv => whnf)) | (refine onB_t (by with_reducible assumption) ?_ <;> (conv => whnf)) | (refine onB_f (by with_reducible assumption) ?_ <;> (conv => whnf)))
  repeat' (refine onB_mk (fun h => ?_) (fun h => ?_) <;> (try rw [h]) <;> (try simp only [decide_eq_true_eq, decide_eq_false_iff_not, beq_iff_eq, beq_eq_false_iff_ne, bne_iff_ne, bne_eq_false_iff_eq, ne_eq, Int.not_lt, Int.not_le, gt_iff_lt, ge_iff_le, Int.ofNat_lt, Int.natCast_inj] at h) <;> (conv => whnf) <;> repeat (first | (refine SeqW.go ?_ <;> (conv => whnf)) | (refine And.intro trivial ?_ <;> (conv => whnf)) | (refine And.intro (And.intro (Nat.le_of_ble_eq_true rfl) (Nat.le_of_ble_eq_true rfl)) ?_ <;> (conv => whnf)) | (refine And.intro (And.intro (Nat.le_of_ble_eq_true rfl) (oneRows_of rfl)) ?_ <;> (conv => whnf)) | (refine And.intro (And.intro (Nat.eq_of_beq_eq_true rfl) (And.intro (oneRows_of rfl) (Nat.le_of_ble_eq_true rfl))) ?_ <;> (conv => whnf)) | (refine And.intro (Nat.le_of_ble_eq_true rfl) ?_ <;> (conv => whnf)) | (refine And.intro (And.intro (by omega) (by omega)) ?_ <;> (conv => whnf)) | (refine And.intro (by omega) ?_ <;> (conv => whnf)) | (refine And.intro (And.intro (by decide) (by decide)) ?_ <;> (conv => whnf)) | (intro _ <;> (conv => whnf)) | (refine And.intro rfl ?_ <;> (conv => whnf)) | (refine onB_t (by with_reducible assumption) ?_ <;> (conv => whnf)) | (refine onB_f (by with_reducible assumption) ?_ <;> (conv => whnf))))
  all_goals (refine ret_now _ ?_)
  all_goals first
    | exact congrArg (fun b => B b) (show decide (t < (s.allocs.getD a.toNat default).tasks.length) = thereB s a t from decide_eq_decide.2 ⟨fun h => ⟨⟨by omega, by omega⟩, by omega, h⟩, fun h => h.2.2⟩)
    | exact congrArg (fun b => B b) (show false = thereB s a t from (decide_eq_false (by omega)).symm)
def recR (s : State) (a t : Int) (x : Step) (k : Look) : Rec :=
  if thereB s a t = false ∨ 6 < x.do_ then default else
  if x.do_ = 1 then ⟨4, 0, default, (s.allocs.getD a.toNat default).spec.id, t, k.now, 0, 0, 0, 0⟩ else
  if x.do_ = 2 then ⟨5, 0, default, (s.allocs.getD a.toNat default).spec.id, t, 0, 0, k.proc.pid, k.proc.nonce, 0⟩ else
  if x.do_ = 3 then ⟨8, 0, default, (s.allocs.getD a.toNat default).spec.id, t, k.now, 0, 0, 0, x.code⟩ else
  if x.do_ = 4 then ⟨7, 0, default, (s.allocs.getD a.toNat default).spec.id, t, 0, 0, 0, 0, 0⟩ else default
def recB (s : State) (a t : Int) (x : Step) : Bool := thereB s a t && (x.do_ == 1 || x.do_ == 2 || x.do_ == 3 || x.do_ == 4)
def recE (s : State) (a t : Int) (x : Step) : Int := if thereB s a t = false then 3 else if 6 < x.do_ then 2 else 0
end Go.Proofs.YtajpldeffhagaaaGreat
