/- Records: whether they are well formed. Records: the checks. rec.Check. -/
import Derived.Test.YtdblhmpcilihnaaGreatT2
import Derived.Test.YtdblhmpcilihnaaGreatFz
namespace Go.Proofs.YtdblhmpcilihnaaGreat
open Go.RowKit E
set_option maxRecDepth 100000
set_option linter.unusedVariables false
set_option linter.unusedSimpArgs false
abbrev nilV : AV := .val (.slice none 0 0)
open Classical in
theorem slEqI_0 (l : List Int) : Pure Tryz.prog 158 [slI l, nilV] (B (decide (l = []))) := by
  refine Pure.ev Tryz.f158 mx Tryz.func158 (by kernel_rfl) rfl rfl rfl ?_ <;> (refine goS ?_ <;> repeat (intro _ <;> refine goS ?_))
  (refine bnS (fun hr h => ?_) (fun hr h => ?_) <;> first | (exact False.elim h) | ((refine goS ?_ <;> repeat (intro _ <;> refine goS ?_))))
  · exact ret_now _ (by_f fun e => by subst e; simp at h)
  · have h0 : l = [] := by cases l with
      | nil => rfl
      | cons a l => simp at h
    subst h0
    refine loop_u 1 ?_
    (refine goS ?_ <;> repeat (intro _ <;> refine goS ?_))
    exact ret_now _ (by_t rfl)
open Classical in
theorem slEqT_0 (l : List TaskSpec) : Pure Tryz.prog 159 [slS l, nilV] (B (decide (l = []))) := by
  refine Pure.ev Tryz.f159 mx Tryz.func159 (by kernel_rfl) rfl rfl rfl ?_ <;> (refine goS ?_ <;> repeat (intro _ <;> refine goS ?_))
  (refine bnS (fun hr h => ?_) (fun hr h => ?_) <;> first | (exact False.elim h) | ((refine goS ?_ <;> repeat (intro _ <;> refine goS ?_))))
  · exact ret_now _ (by_f fun e => by subst e; simp at h)
  · have h0 : l = [] := by cases l with
      | nil => rfl
      | cons a l => simp at h
    subst h0
    refine loop_u 1 ?_
    (refine goS ?_ <;> repeat (intro _ <;> refine goS ?_))
    exact ret_now _ (by_t rfl)
open Classical in
theorem eqInts_0 (l : List Int) : Pure Tryz.prog 55 [slI l, slI []] (B (decide (l = []))) := by
  cases l with
  | nil => rw [← by_t (p := ([] : List Int) = []) rfl]; exact equalInts_p []
  | cons a l =>
    refine Pure.ev Tryz.f55 mx Tryz.func55 (by kernel_rfl) rfl rfl rfl ?_ <;> (refine goS ?_ <;> repeat (intro _ <;> refine goS ?_))
    exact ret_now _ (by_f nofun)
open Classical in
theorem eqTS_0 (l : List TaskSpec) : Pure Tryz.prog 109 [slS l, slS []] (B (decide (l = []))) := by
  cases l with
  | nil => rw [← by_t (p := ([] : List TaskSpec) = []) rfl]; exact equalTaskSpecs_p []
  | cons a l =>
    refine Pure.ev Tryz.f109 mx Tryz.func109 (by kernel_rfl) rfl rfl rfl ?_ <;> (refine goS ?_ <;> repeat (intro _ <;> refine goS ?_))
    exact ret_now _ (by_f nofun)
theorem zSp_of {s : Spec} (h1 : s.id = 0) (h2 : s.res.cpu = 0) (h3 : s.res.mem = 0) (h4 : s.res.disk = 0) (h5 : s.ports = []) (h6 : s.tasks = []) : s = zSp := by
  obtain ⟨id, ⟨c, m, d⟩, p, t⟩ := s
  dsimp only at *
  subst h1 h2 h3 h4 h5 h6; rfl
open Classical in
theorem specEq0_p (s : Spec) : Pure Tryz.prog 84 [s.av, .agg [I 0, I 0, I 0, I 0, nilV, nilV]] (B (decide (s = zSp))) := by
  refine Pure.ev Tryz.f84 mx Tryz.func84 (by kernel_rfl) rfl rfl rfl ?_ <;> (refine goS ?_ <;> repeat (intro _ <;> refine goS ?_))
  (refine bnS (fun hr h => ?_) (fun hr h => ?_) <;> first | (exact False.elim h) | ((refine goS ?_ <;> repeat (intro _ <;> refine goS ?_))))
  · (rw [evN_cmp]; rotate_left 1; (focus kernel_rfl)) <;> (refine goS ?_ <;> repeat (intro _ <;> refine goS ?_))
    repeat' (first
      | ((refine bnS (fun hr h => ?_) (fun hr h => ?_) <;> first | (exact False.elim h) | ((refine goS ?_ <;> repeat (intro _ <;> refine goS ?_)))))
      | ((first | refine Pure.call (slEqI_0 _) ?_ | refine HCall.pure (slEqI_0 _) ?_) <;> (refine goS ?_ <;> repeat (intro _ <;> refine goS ?_)))
      | ((first | refine Pure.call (slEqT_0 _) ?_ | refine HCall.pure (slEqT_0 _) ?_) <;> (refine goS ?_ <;> repeat (intro _ <;> refine goS ?_))))
    · exact ret_now _ (bdec (by
        obtain ⟨h1, h2, h3⟩ := (by assumption : s.res.cpu = 0 ∧ s.res.mem = 0 ∧ s.res.disk = 0)
        simp only [decide_eq_true_eq]
        exact ⟨fun e => zSp_of (by assumption) h1 h2 h3 h e, fun e => by rw [e]; rfl⟩))
    · exact ret_now _ (by_f fun e => h (by rw [e]; rfl))
    · exact ret_now _ (by_f fun e => by subst e; exact h rfl rfl rfl)
  · exact ret_now _ (by_f fun e => h (by rw [e]; rfl))
open Classical in
theorem kEqSp0_p (s : Spec) : Pure Tryz.prog 62 [s.av, zSp.av] (B (decide (s = zSp))) := by
  refine Pure.ev Tryz.f62 mx Tryz.func62 (by kernel_rfl) rfl rfl rfl ?_ <;> (refine goS ?_ <;> repeat (intro _ <;> refine goS ?_))
  (refine bnS (fun hr h => ?_) (fun hr h => ?_) <;> first | (exact False.elim h) | ((refine goS ?_ <;> repeat (intro _ <;> refine goS ?_))))
  · have h0 : s.id = 0 := h
    (rw [evN_cmp]; rotate_left 1; (focus kernel_rfl)) <;> (refine goS ?_ <;> repeat (intro _ <;> refine goS ?_))
    repeat' (first
      | ((refine bnS (fun hr h => ?_) (fun hr h => ?_) <;> first | (exact False.elim h) | ((refine goS ?_ <;> repeat (intro _ <;> refine goS ?_)))))
      | ((first | refine Pure.call (eqInts_0 _) ?_ | refine HCall.pure (eqInts_0 _) ?_) <;> (refine goS ?_ <;> repeat (intro _ <;> refine goS ?_)))
      | ((first | refine Pure.call (eqTS_0 _) ?_ | refine HCall.pure (eqTS_0 _) ?_) <;> (refine goS ?_ <;> repeat (intro _ <;> refine goS ?_))))
    · exact ret_now _ (bdec (by
        have h1 : s.res.cpu = 0 ∧ s.res.mem = 0 ∧ s.res.disk = 0 := by assumption
        simp only [decide_eq_true_eq]
        exact ⟨fun e => zSp_of h0 h1.1 h1.2.1 h1.2.2 h e, fun e => by rw [e]; rfl⟩))
    · exact ret_now _ (by_f fun e => h (by rw [e] <;> rfl))
    · exact ret_now _ (by_f fun e => by subst e; exact h rfl rfl rfl)
  · exact ret_now _ (by_f fun e => h (by rw [e] <;> rfl))
instance (k : Int) : Decidable (uEp k) := by unfold uEp; infer_instance
instance (k : Int) : Decidable (uId k) := by unfold uId; infer_instance
instance (k : Int) : Decidable (uTa k) := by unfold uTa; infer_instance
instance (k : Int) : Decidable (uTi k) := by unfold uTi; infer_instance
/-- A record without what its kind does not use. -/
def plnF (r : Rec) : Rec := ⟨r.kind, if uEp r.kind then r.epoch else 0, if r.kind = 1 then r.spec else zSp, if uId r.kind then r.id else 0, if uTa r.kind then r.task else 0, if uTi r.kind then r.tick else 0, if r.kind = 2 then r.wait else 0, if r.kind = 5 then r.pid else 0, if r.kind = 5 then r.nonce else 0, if r.kind = 8 then r.code else 0⟩
def getF (r : Rec) : Nat → Int
  | 0 => r.epoch
  | 1 => r.id
  | 2 => r.task
  | 3 => r.tick
  | 4 => r.wait
  | 5 => r.pid
  | _ => r.nonce
theorem get_p (r : Rec) (j : Nat) (hj : j < 7) : Pure Tryz.prog 101 [r.av, I j] (I (getF r j)) := by
  match j, hj with
  | 0, _ | 1, _ | 2, _ | 3, _ | 4, _ | 5, _ | 6, _ =>
    refine Pure.ev Tryz.f101 mx Tryz.func101 (by kernel_rfl) rfl rfl rfl ?_ <;> (refine goS ?_ <;> repeat (intro _ <;> refine goS ?_))
    exact ret_now _ rfl
abbrev recN (k ep id ta ti wa pi no co : Int) : AV := .agg [U8 k, I ep, I 0, I 0, I 0, I 0, nilV, nilV, I id, I ta, I ti, I wa, I pi, I no, I co]
theorem with_p (k ep id ta ti wa pi no co n : Int) :
  (Pure Tryz.prog 172 [recN k ep id ta ti wa pi no co, I 0, I n] (recN k n id ta ti wa pi no co)) ∧
    (Pure Tryz.prog 172 [recN k ep id ta ti wa pi no co, I 1, I n] (recN k ep n ta ti wa pi no co)) ∧
    (Pure Tryz.prog 172 [recN k ep id ta ti wa pi no co, I 2, I n] (recN k ep id n ti wa pi no co)) ∧
    (Pure Tryz.prog 172 [recN k ep id ta ti wa pi no co, I 3, I n] (recN k ep id ta n wa pi no co)) ∧
    (Pure Tryz.prog 172 [recN k ep id ta ti wa pi no co, I 4, I n] (recN k ep id ta ti n pi no co)) ∧
    (Pure Tryz.prog 172 [recN k ep id ta ti wa pi no co, I 5, I n] (recN k ep id ta ti wa n no co)) ∧
    (Pure Tryz.prog 172 [recN k ep id ta ti wa pi no co, I 6, I n] (recN k ep id ta ti wa pi n co)) := by
  refine ⟨?_, ?_, ?_, ?_, ?_, ?_, ?_⟩
  all_goals
    refine Pure.ev Tryz.f172 mx Tryz.func172 (by kernel_rfl) rfl rfl rfl ?_ <;> (refine goS ?_ <;> repeat (intro _ <;> refine goS ?_))
    exact ret_now _ rfl
def mostF : Nat → Int
  | 1 => 2147483648
  | 2 => 3
  | _ => mT
theorem most_p (j : Nat) (hj : j < 7) : Pure Tryz.prog 102 [I j] (I (mostF j)) := by
  match j, hj with
  | 0, _ | 1, _ | 2, _ | 3, _ | 4, _ | 5, _ | 6, _ =>
    refine Pure.ev Tryz.f102 mx Tryz.func102 (by kernel_rfl) rfl rfl rfl ?_ <;> (refine goS ?_ <;> repeat (intro _ <;> refine goS ?_))
    exact ret_now _ rfl
set_option maxHeartbeats 4000000 in
theorem plain_p (r : Rec) (hk : 1 ≤ r.kind ∧ r.kind ≤ 9) : Pure Tryz.prog 99 [r.av] ((plnF r).av) := by
  have G := get_p r
  obtain ⟨k, ep, sp, id, ta, ti, wa, pi, no, co⟩ := r
  dsimp only at hk
  have hk : k = 1 ∨ k = 2 ∨ k = 3 ∨ k = 4 ∨ k = 5 ∨ k = 6 ∨ k = 7 ∨ k = 8 ∨ k = 9 := by omega
  rcases hk with rfl | rfl | rfl | rfl | rfl | rfl | rfl | rfl | rfl
  all_goals
    refine Pure.ev Tryz.f99 mx Tryz.func99 (by kernel_rfl) rfl rfl rfl ?_ <;> (refine goS ?_ <;> repeat (intro _ <;> refine goS ?_))
    refine ACalls.ev Tryz.f100 mx Tryz.func100 (by kernel_rfl) rfl ?_ <;> (refine goS ?_ <;> repeat (intro _ <;> refine goS ?_))
    refine ret_now _ ?_ <;> (refine goS ?_ <;> repeat (intro _ <;> refine goS ?_))
    refine loop_u 5 ?_
    (refine goS ?_ <;> repeat (intro _ <;> refine goS ?_))
    repeat' (first
      | ((first | refine Pure.call (G 0 (by decide)) ?_ | refine HCall.pure (G 0 (by decide)) ?_) <;> (refine goS ?_ <;> repeat (intro _ <;> refine goS ?_)))
      | ((first | refine Pure.call (G 1 (by decide)) ?_ | refine HCall.pure (G 1 (by decide)) ?_) <;> (refine goS ?_ <;> repeat (intro _ <;> refine goS ?_)))
      | ((first | refine Pure.call (G 2 (by decide)) ?_ | refine HCall.pure (G 2 (by decide)) ?_) <;> (refine goS ?_ <;> repeat (intro _ <;> refine goS ?_)))
      | ((first | refine Pure.call (G 3 (by decide)) ?_ | refine HCall.pure (G 3 (by decide)) ?_) <;> (refine goS ?_ <;> repeat (intro _ <;> refine goS ?_)))
      | ((first | refine Pure.call (G 4 (by decide)) ?_ | refine HCall.pure (G 4 (by decide)) ?_) <;> (refine goS ?_ <;> repeat (intro _ <;> refine goS ?_)))
      | ((first | refine Pure.call (G 5 (by decide)) ?_ | refine HCall.pure (G 5 (by decide)) ?_) <;> (refine goS ?_ <;> repeat (intro _ <;> refine goS ?_)))
      | ((first | refine Pure.call (G 6 (by decide)) ?_ | refine HCall.pure (G 6 (by decide)) ?_) <;> (refine goS ?_ <;> repeat (intro _ <;> refine goS ?_)))
      | ((first | refine Pure.call ((with_p _ _ _ _ _ _ _ _ _ _).1) ?_ | refine HCall.pure ((with_p _ _ _ _ _ _ _ _ _ _).1) ?_) <;> (refine goS ?_ <;> repeat (intro _ <;> refine goS ?_)))
      | ((first | refine Pure.call ((with_p _ _ _ _ _ _ _ _ _ _).2.1) ?_ | refine HCall.pure ((with_p _ _ _ _ _ _ _ _ _ _).2.1) ?_) <;> (refine goS ?_ <;> repeat (intro _ <;> refine goS ?_)))
      | ((first | refine Pure.call ((with_p _ _ _ _ _ _ _ _ _ _).2.2.1) ?_ | refine HCall.pure ((with_p _ _ _ _ _ _ _ _ _ _).2.2.1) ?_) <;> (refine goS ?_ <;> repeat (intro _ <;> refine goS ?_)))
      | ((first | refine Pure.call ((with_p _ _ _ _ _ _ _ _ _ _).2.2.2.1) ?_ | refine HCall.pure ((with_p _ _ _ _ _ _ _ _ _ _).2.2.2.1) ?_) <;> (refine goS ?_ <;> repeat (intro _ <;> refine goS ?_)))
      | ((first | refine Pure.call ((with_p _ _ _ _ _ _ _ _ _ _).2.2.2.2.1) ?_ | refine HCall.pure ((with_p _ _ _ _ _ _ _ _ _ _).2.2.2.2.1) ?_) <;> (refine goS ?_ <;> repeat (intro _ <;> refine goS ?_)))
      | ((first | refine Pure.call ((with_p _ _ _ _ _ _ _ _ _ _).2.2.2.2.2.1) ?_ | refine HCall.pure ((with_p _ _ _ _ _ _ _ _ _ _).2.2.2.2.2.1) ?_) <;> (refine goS ?_ <;> repeat (intro _ <;> refine goS ?_)))
      | ((first | refine Pure.call ((with_p _ _ _ _ _ _ _ _ _ _).2.2.2.2.2.2) ?_ | refine HCall.pure ((with_p _ _ _ _ _ _ _ _ _ _).2.2.2.2.2.2) ?_) <;> (refine goS ?_ <;> repeat (intro _ <;> refine goS ?_))))
    exact ret_frz (x1 := (plnF ⟨_, ep, sp, id, ta, ti, wa, pi, no, co⟩).av) ⟨rfl, rfl, rfl, rfl, rfl, rfl, rfl, rfl, rfl, rfl, rfl, rfl, rfl, rfl, rfl, trivial⟩ rfl
open Classical in
theorem equalRec_g (a b : Rec) (hs : Pure Tryz.prog 62 [a.spec.av, b.spec.av] (B (decide (a.spec = b.spec)))) : Pure Tryz.prog 28 [a.av, b.av] (B (decide (a = b))) := by
  refine Pure.ev Tryz.f28 mx Tryz.func28 (by kernel_rfl) rfl rfl rfl ?_ <;> (refine goS ?_ <;> repeat (intro _ <;> refine goS ?_))
  repeat' (first
    | ((refine bnS (fun hr h => ?_) (fun hr h => ?_) <;> first | (exact False.elim h) | ((refine goS ?_ <;> repeat (intro _ <;> refine goS ?_)))))
    | ((first | refine Pure.call (hs) ?_ | refine HCall.pure (hs) ?_) <;> (refine goS ?_ <;> repeat (intro _ <;> refine goS ?_))))
  all_goals first
    | exact ret_now _ (by_f fun e => h (by rw [e]))
    | skip
  refine ret_now _ (bdec ?_)
  rw [decide_eq_true_eq]
  refine ⟨fun e => ?_, fun e => by rw [e]⟩
  obtain ⟨k, ep, sp, id, ta, ti, wa, pi, no, co⟩ := a
  obtain ⟨k', ep', sp', id', ta', ti', wa', pi', no', co'⟩ := b
  dsimp only at *
  subst_vars
  rfl
theorem ite0 {p : Prop} [Decidable p] {a : Int} : (a = if p then a else 0) ↔ (¬ p → a = 0) := by
  by_cases c : p <;> simp [c]
theorem pln_iff (r : Rec) : r.pln ↔ r = plnF r := by
  obtain ⟨k, ep, sp, id, ta, ti, wa, pi, no, co⟩ := r
  unfold Rec.pln plnF
  simp only [Rec.mk.injEq, true_and, ite0]
  have : (sp = if k = 1 then sp else zSp) ↔ (k ≠ 1 → sp = zSp) := by by_cases c : k = 1 <;> simp [c]
  rw [this]
  constructor
  · rintro ⟨h1, h2, h3, h4, h5, h6, h7, h8, h9⟩; exact ⟨h1, h9, h2, h3, h4, h5, h6, h7, h8⟩
  · rintro ⟨h1, h9, h2, h3, h4, h5, h6, h7, h8⟩; exact ⟨h1, h2, h3, h4, h5, h6, h7, h8, h9⟩
open Classical in
theorem eqPlain_p (r : Rec) : Pure Tryz.prog 28 [r.av, (plnF r).av] (B (decide r.pln)) := by
  have h := equalRec_g r (plnF r) (by
    by_cases c : r.kind = 1
    · rw [show (plnF r).spec = r.spec from if_pos c, ← by_t (p := r.spec = r.spec) rfl]
      exact equalSpec_p r.spec
    · rw [show (plnF r).spec = zSp from if_neg c]
      exact kEqSp0_p r.spec)
  rw [show (B (decide r.pln)) = B (decide (r = plnF r)) from bdec (by rw [decide_eq_true_eq]; exact pln_iff r)]
  exact h
theorem recE_2 {r : Rec} (h : ¬ (1 ≤ r.kind ∧ r.kind ≤ 9) ∨ ¬ r.pln) : recE r = 2 := if_pos h
theorem recE_3 {r : Rec} (h : 1 ≤ r.kind ∧ r.kind ≤ 9) (h2 : r.pln) (h3 : ¬ r.rng) : recE r = 3 := by unfold recE; rw [if_neg (fun e => e.elim (fun e => e h) (fun e => e h2)), if_pos h3]
theorem recE_4 {r : Rec} (h : 1 ≤ r.kind ∧ r.kind ≤ 9) (h2 : r.pln) (h3 : r.rng) : recE r = if r.kind = 1 then specE r.spec else 0 := by unfold recE; rw [if_neg (fun e => e.elim (fun e => e h) (fun e => e h2)), if_neg (not_not_intro h3)]
theorem rng_of {r : Rec} (h : (0 ≤ r.epoch ∧ r.epoch ≤ 1099511627776) ∧ (0 ≤ r.id ∧ r.id ≤ 2147483648) ∧ (0 ≤ r.task ∧ r.task ≤ 3) ∧ (0 ≤ r.tick ∧ r.tick ≤ 1099511627776) ∧ (0 ≤ r.wait ∧ r.wait ≤ 1099511627776) ∧ (0 ≤ r.pid ∧ r.pid ≤ 1099511627776) ∧ (0 ≤ r.nonce ∧ r.nonce ≤ 1099511627776)) : r.rng := h
theorem of_rng {r : Rec} (h : r.rng) : (0 ≤ r.epoch ∧ r.epoch ≤ 1099511627776) ∧ (0 ≤ r.id ∧ r.id ≤ 2147483648) ∧ (0 ≤ r.task ∧ r.task ≤ 3) ∧ (0 ≤ r.tick ∧ r.tick ≤ 1099511627776) ∧ (0 ≤ r.wait ∧ r.wait ≤ 1099511627776) ∧ (0 ≤ r.pid ∧ r.pid ≤ 1099511627776) ∧ (0 ≤ r.nonce ∧ r.nonce ≤ 1099511627776) := h
theorem pln_z {r : Rec} (h : r.pln) : (r.kind = 1 ∨ r.kind = 2 ∨ r.kind = 3 ∨ r.epoch = 0) ∧ (2 ≤ r.kind ∧ r.kind ≤ 8 ∨ r.id = 0) ∧ (4 ≤ r.kind ∧ r.kind ≤ 8 ∨ r.task = 0) ∧ (r.kind = 2 ∨ r.kind = 4 ∨ r.kind = 8 ∨ r.kind = 9 ∨ r.tick = 0) ∧ (r.kind = 2 ∨ r.wait = 0) ∧ (r.kind = 5 ∨ r.pid = 0) ∧ (r.kind = 5 ∨ r.nonce = 0) := by
  obtain ⟨h1, h2, h3, h4, h5, h6, h7, _⟩ := h
  unfold uEp at h1; unfold uId at h2; unfold uTa at h3; unfold uTi at h4
  omega
open Classical in
set_option maxHeartbeats 8000000 in
theorem ref17Check_p (r : Rec) (h0 : 0 ≤ r.kind) : Pure Tryz.prog 60 [r.av] (I (recE r)) := by
  by_cases hk : 1 ≤ r.kind ∧ r.kind ≤ 9
  · have hP := plain_p r hk
    have hE := eqPlain_p r
    have G0 := get_p r 0 (by decide)
    have G1 := get_p r 1 (by decide)
    have G2 := get_p r 2 (by decide)
    have G3 := get_p r 3 (by decide)
    have G4 := get_p r 4 (by decide)
    have G5 := get_p r 5 (by decide)
    have G6 := get_p r 6 (by decide)
    have M0 : Pure Tryz.prog 102 [I 0] (I 1099511627776) := most_p 0 (by decide)
    have M1 : Pure Tryz.prog 102 [I 1] (I 2147483648) := most_p 1 (by decide)
    have M2 : Pure Tryz.prog 102 [I 2] (I 3) := most_p 2 (by decide)
    have M3 : Pure Tryz.prog 102 [I 3] (I 1099511627776) := most_p 3 (by decide)
    have M4 : Pure Tryz.prog 102 [I 4] (I 1099511627776) := most_p 4 (by decide)
    have M5 : Pure Tryz.prog 102 [I 5] (I 1099511627776) := most_p 5 (by decide)
    have M6 : Pure Tryz.prog 102 [I 6] (I 1099511627776) := most_p 6 (by decide)
    have hC := check13_p r.spec
    by_cases hp : r.pln
    · rw [decide_eq_true hp] at hE
      have hz := pln_z hp
      have e3 : ¬ r.rng → recE r = 3 := recE_3 hk hp
      have e4 : r.rng → recE r = if r.kind = 1 then specE r.spec else 0 := recE_4 hk hp
      have g1 := @rng_of r
      have g2 := @of_rng r
      generalize recE r = E at e3 e4 ⊢
      generalize r.rng = R at e3 e4 g1 g2
      clear h0 hp
      obtain ⟨k, ep, sp, id, ta, ti, wa, pi, no, co⟩ := r
      dsimp only [getF] at hk G0 G1 G2 G3 G4 G5 G6 hz e3 e4 g1 g2 hC
      have hk : k = 1 ∨ k = 2 ∨ k = 3 ∨ k = 4 ∨ k = 5 ∨ k = 6 ∨ k = 7 ∨ k = 8 ∨ k = 9 := by omega
      rcases hk with rfl | rfl | rfl | rfl | rfl | rfl | rfl | rfl | rfl
      all_goals
        refine Pure.ev Tryz.f60 mx Tryz.func60 (by kernel_rfl) rfl rfl rfl ?_ <;> (refine goS ?_ <;> repeat (intro _ <;> refine goS ?_))
        (first | refine Pure.call (hP) ?_ | refine HCall.pure (hP) ?_) <;> (refine goS ?_ <;> repeat (intro _ <;> refine goS ?_))
        (first | refine Pure.call (hE) ?_ | refine HCall.pure (hE) ?_) <;> (refine goS ?_ <;> repeat (intro _ <;> refine goS ?_))
        refine ACalls.ev Tryz.f100 mx Tryz.func100 (by kernel_rfl) rfl ?_ <;> (refine goS ?_ <;> repeat (intro _ <;> refine goS ?_))
        refine ret_now _ ?_ <;> (refine goS ?_ <;> repeat (intro _ <;> refine goS ?_))
        refine loop_u 5 ?_
        (refine goS ?_ <;> repeat (intro _ <;> refine goS ?_))
        repeat' (first
          | ((refine bnS (fun hr h => ?_) (fun hr h => ?_) <;> first | (exact False.elim h) | ((refine goS ?_ <;> repeat (intro _ <;> refine goS ?_)))))
          | ((first | refine Pure.call (G0) ?_ | refine HCall.pure (G0) ?_) <;> (refine goS ?_ <;> repeat (intro _ <;> refine goS ?_)))
          | ((first | refine Pure.call (G1) ?_ | refine HCall.pure (G1) ?_) <;> (refine goS ?_ <;> repeat (intro _ <;> refine goS ?_)))
          | ((first | refine Pure.call (G2) ?_ | refine HCall.pure (G2) ?_) <;> (refine goS ?_ <;> repeat (intro _ <;> refine goS ?_)))
          | ((first | refine Pure.call (G3) ?_ | refine HCall.pure (G3) ?_) <;> (refine goS ?_ <;> repeat (intro _ <;> refine goS ?_)))
          | ((first | refine Pure.call (G4) ?_ | refine HCall.pure (G4) ?_) <;> (refine goS ?_ <;> repeat (intro _ <;> refine goS ?_)))
          | ((first | refine Pure.call (G5) ?_ | refine HCall.pure (G5) ?_) <;> (refine goS ?_ <;> repeat (intro _ <;> refine goS ?_)))
          | ((first | refine Pure.call (G6) ?_ | refine HCall.pure (G6) ?_) <;> (refine goS ?_ <;> repeat (intro _ <;> refine goS ?_)))
          | ((first | refine Pure.call (M0) ?_ | refine HCall.pure (M0) ?_) <;> (refine goS ?_ <;> repeat (intro _ <;> refine goS ?_)))
          | ((first | refine Pure.call (M1) ?_ | refine HCall.pure (M1) ?_) <;> (refine goS ?_ <;> repeat (intro _ <;> refine goS ?_)))
          | ((first | refine Pure.call (M2) ?_ | refine HCall.pure (M2) ?_) <;> (refine goS ?_ <;> repeat (intro _ <;> refine goS ?_)))
          | ((first | refine Pure.call (M3) ?_ | refine HCall.pure (M3) ?_) <;> (refine goS ?_ <;> repeat (intro _ <;> refine goS ?_)))
          | ((first | refine Pure.call (M4) ?_ | refine HCall.pure (M4) ?_) <;> (refine goS ?_ <;> repeat (intro _ <;> refine goS ?_)))
          | ((first | refine Pure.call (M5) ?_ | refine HCall.pure (M5) ?_) <;> (refine goS ?_ <;> repeat (intro _ <;> refine goS ?_)))
          | ((first | refine Pure.call (M6) ?_ | refine HCall.pure (M6) ?_) <;> (refine goS ?_ <;> repeat (intro _ <;> refine goS ?_)))
          | ((first | refine Pure.call (hC) ?_ | refine HCall.pure (hC) ?_) <;> (refine goS ?_ <;> repeat (intro _ <;> refine goS ?_))))
      all_goals first
        | exact ret_now _ (congrArg I (e3 fun c => by have := g2 c; omega).symm)
        | exact ret_now _ (congrArg I (e4 (g1 (by omega))).symm)
        | skip
      all_goals trace_state
    · rw [decide_eq_false hp] at hE
      have e2 := recE_2 (r := r) (.inr hp)
      generalize recE r = E at e2 ⊢
      subst e2
      clear h0 hp
      obtain ⟨k, ep, sp, id, ta, ti, wa, pi, no, co⟩ := r
      dsimp only at hk
      refine Pure.ev Tryz.f60 mx Tryz.func60 (by kernel_rfl) rfl rfl rfl ?_ <;> (refine goS ?_ <;> repeat (intro _ <;> refine goS ?_))
      repeat' (first | ((refine bnS (fun hr h => ?_) (fun hr h => ?_) <;> first | (exfalso; omega) | ((refine goS ?_ <;> repeat (intro _ <;> refine goS ?_))))) | ((first | refine Pure.call (hP) ?_ | refine HCall.pure (hP) ?_) <;> (refine goS ?_ <;> repeat (intro _ <;> refine goS ?_))) | ((first | refine Pure.call (hE) ?_ | refine HCall.pure (hE) ?_) <;> (refine goS ?_ <;> repeat (intro _ <;> refine goS ?_))))
      exact ret_now _ rfl
  · have e2 := recE_2 (r := r) (.inl hk)
    generalize recE r = E at e2 ⊢
    subst e2
    obtain ⟨k, ep, sp, id, ta, ti, wa, pi, no, co⟩ := r
    dsimp only at hk
    refine Pure.ev Tryz.f60 mx Tryz.func60 (by kernel_rfl) rfl rfl rfl ?_ <;> (refine goS ?_ <;> repeat (intro _ <;> refine goS ?_))
    repeat' ((refine bnS (fun hr h => ?_) (fun hr h => ?_) <;> first | (exfalso; omega) | ((refine goS ?_ <;> repeat (intro _ <;> refine goS ?_)))))
    all_goals exact ret_now _ rfl
theorem zero_p (b : Bool) (n : Int) : Pure Tryz.prog 83 [B b, I n] (B (b || n == 0)) := by
  cases b
  all_goals
    refine Pure.ev Tryz.f83 mx Tryz.func83 (by kernel_rfl) rfl rfl rfl ?_ <;> (refine goS ?_ <;> repeat (intro _ <;> refine goS ?_))
    exact ret_now _ rfl
theorem zeroF_p (n : Int) : Pure Tryz.prog 83 [B false, I n] (B (n == 0)) := zero_p false n
theorem zeroT_p (n : Int) : Pure Tryz.prog 83 [B true, I n] (B true) := zero_p true n
abbrev zerosF (r : Rec) : Prop := (r.kind = 1 ∨ r.kind = 2 ∨ r.kind = 3 ∨ r.epoch = 0) ∧ (2 ≤ r.kind ∧ r.kind ≤ 8 ∨ r.id = 0) ∧ (4 ≤ r.kind ∧ r.kind ≤ 8 ∨ r.task = 0) ∧ (r.kind = 2 ∨ r.kind = 4 ∨ r.kind = 8 ∨ r.kind = 9 ∨ r.tick = 0) ∧ (r.kind = 2 ∨ r.wait = 0) ∧ (r.kind = 5 ∨ r.pid = 0) ∧ (r.kind = 5 ∨ r.nonce = 0) ∧ (r.kind = 8 ∨ r.code = 0)
theorem pln_z8 {r : Rec} (h : r.pln) : zerosF r := by
  have h1 := pln_z h
  have h2 := h.2.2.2.2.2.2.2.1
  unfold zerosF
  omega
theorem z8_pln {r : Rec} (h : zerosF r) (hs : r.kind = 1 ∨ r.spec = zSp) : r.pln := by
  unfold zerosF at h
  refine ⟨?_, ?_, ?_, ?_, ?_, ?_, ?_, ?_, fun h1 => hs.resolve_left h1⟩ <;> (try unfold uEp) <;> (try unfold uId) <;> (try unfold uTa) <;> (try unfold uTi) <;> omega
open Classical in
set_option maxHeartbeats 8000000 in
theorem recCheck_p (r : Rec) (h0 : 0 ≤ r.kind) : Pure Tryz.prog 52 [r.av] (I (recE r)) := by
  by_cases hk : 1 ≤ r.kind ∧ r.kind ≤ 9
  · have hC := specCheck_p r.spec
    have hE := specEq0_p r.spec
    have e2 : (r.pln → False) → recE r = 2 := fun h => recE_2 (.inr h)
    have e3 : r.pln → ¬ r.rng → recE r = 3 := recE_3 hk
    have e4 : r.pln → r.rng → recE r = if r.kind = 1 then specE r.spec else 0 := recE_4 hk
    have g1 := @rng_of r
    have g2 := @of_rng r
    have pz := @pln_z8 r
    have po := @z8_pln r
    have ps : r.pln → r.kind ≠ 1 → r.spec = zSp := fun h => h.2.2.2.2.2.2.2.2
    generalize recE r = E at e2 e3 e4 ⊢
    generalize r.rng = R at e3 e4 g1 g2
    generalize r.pln = P at e2 e3 e4 pz po ps
    clear h0
    obtain ⟨k, ep, sp, id, ta, ti, wa, pi, no, co⟩ := r
    dsimp only [zerosF] at hk e3 e4 g1 g2 hC hE pz po ps
    have hk : k = 1 ∨ k = 2 ∨ k = 3 ∨ k = 4 ∨ k = 5 ∨ k = 6 ∨ k = 7 ∨ k = 8 ∨ k = 9 := by omega
    rcases hk with rfl | rfl | rfl | rfl | rfl | rfl | rfl | rfl | rfl
    all_goals
      refine Pure.ev Tryz.f52 mx Tryz.func52 (by kernel_rfl) rfl rfl rfl ?_ <;> (refine goS ?_ <;> repeat (intro _ <;> refine goS ?_))
      refine ACalls.ev Tryz.f82 mx Tryz.func82 (by kernel_rfl) rfl ?_ <;> (refine goS ?_ <;> repeat (intro _ <;> refine goS ?_))
      refine ret_now _ ?_ <;> (refine goS ?_ <;> repeat (intro _ <;> refine goS ?_))
      repeat' (first
        | ((refine bnS (fun hr h => ?_) (fun hr h => ?_) <;> first | (exact False.elim h) | ((refine goS ?_ <;> repeat (intro _ <;> refine goS ?_)))))
        | ((first | refine Pure.call (zeroF_p _) ?_ | refine HCall.pure (zeroF_p _) ?_) <;> (refine goS ?_ <;> repeat (intro _ <;> refine goS ?_)))
        | ((first | refine Pure.call (zeroT_p _) ?_ | refine HCall.pure (zeroT_p _) ?_) <;> (refine goS ?_ <;> repeat (intro _ <;> refine goS ?_)))
        | ((first | refine Pure.call (hE) ?_ | refine HCall.pure (hE) ?_) <;> (refine goS ?_ <;> repeat (intro _ <;> refine goS ?_))))
    all_goals first
      | exact ret_now _ (congrArg I (e2 fun c => by have := pz c; omega).symm)
      | exact ret_now _ (congrArg I (e2 fun c => h (ps c (by decide))).symm)
      | skip
    all_goals
      refine ACalls.ev Tryz.f85 mx Tryz.func85 (by kernel_rfl) rfl ?_ <;> (refine goS ?_ <;> repeat (intro _ <;> refine goS ?_))
      refine ret_now _ ?_ <;> (refine goS ?_ <;> repeat (intro _ <;> refine goS ?_))
      refine loop_u 8 ?_
      (refine goS ?_ <;> repeat (intro _ <;> refine goS ?_))
      repeat' (first
        | ((refine bnS (fun hr h => ?_) (fun hr h => ?_) <;> first | (exact False.elim h) | ((refine goS ?_ <;> repeat (intro _ <;> refine goS ?_)))))
        | ((first | refine Pure.call (zeroF_p _) ?_ | refine HCall.pure (zeroF_p _) ?_) <;> (refine goS ?_ <;> repeat (intro _ <;> refine goS ?_)))
        | ((first | refine Pure.call (zeroT_p _) ?_ | refine HCall.pure (zeroT_p _) ?_) <;> (refine goS ?_ <;> repeat (intro _ <;> refine goS ?_))))
    all_goals first
      | exact ret_now _ (congrArg I (e2 fun c => by have := pz c; omega).symm)
      | skip
    all_goals
      refine ACalls.ev Tryz.f85 mx Tryz.func85 (by kernel_rfl) rfl ?_ <;> (refine goS ?_ <;> repeat (intro _ <;> refine goS ?_))
      refine ret_now _ ?_ <;> (refine goS ?_ <;> repeat (intro _ <;> refine goS ?_))
      refine loop_u 8 ?_
      (refine goS ?_ <;> repeat (intro _ <;> refine goS ?_))
      repeat' (first
        | ((refine bnS (fun hr h => ?_) (fun hr h => ?_) <;> first | (exact False.elim h) | ((refine goS ?_ <;> repeat (intro _ <;> refine goS ?_)))))
        | ((first | refine Pure.call (hC) ?_ | refine HCall.pure (hC) ?_) <;> (refine goS ?_ <;> repeat (intro _ <;> refine goS ?_))))
    all_goals first
      | exact ret_now _ (congrArg I (e3 (po (by omega) (by first | exact .inl rfl | exact .inr (by assumption))) (fun c => by have := g2 c; omega)).symm)
      | exact ret_now _ (congrArg I (e4 (po (by omega) (by first | exact .inl rfl | exact .inr (by assumption))) (g1 (by omega))).symm)
      | trace_state
  · have e2 := recE_2 (r := r) (.inl hk)
    generalize recE r = E at e2 ⊢
    subst e2
    obtain ⟨k, ep, sp, id, ta, ti, wa, pi, no, co⟩ := r
    dsimp only at hk h0
    refine Pure.ev Tryz.f52 mx Tryz.func52 (by kernel_rfl) rfl rfl rfl ?_ <;> (refine goS ?_ <;> repeat (intro _ <;> refine goS ?_))
    refine ACalls.ev Tryz.f82 mx Tryz.func82 (by kernel_rfl) rfl ?_ <;> (refine goS ?_ <;> repeat (intro _ <;> refine goS ?_))
    repeat' ((refine bnS (fun hr h => ?_) (fun hr h => ?_) <;> first | (exfalso; omega) | ((refine goS ?_ <;> repeat (intro _ <;> refine goS ?_)))))
    all_goals (refine ret_now _ ?_ <;> (refine goS ?_ <;> repeat (intro _ <;> refine goS ?_)))
    all_goals exact ret_now _ rfl
end Go.Proofs.YtdblhmpcilihnaaGreat
