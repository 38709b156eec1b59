/- What is next for a task: the reference's (layer 31). Records (layer 31): the program's and the reference's. -/
import Derived.Test.YtdblhmpcilihnaaGreatE7
namespace Go.Proofs.YtdblhmpcilihnaaGreat
open Go.RowKit E
set_option maxRecDepth 100000
set_option linter.unusedVariables false
set_option linter.unusedSimpArgs false
def liveG (st until_ now : Int) (fenced sick term kill : Bool) : Int :=
  if st = 1 then (if fenced then 4 else 2) else if st = 2 then (if fenced || sick then 4 else 0) else
  if st = 4 then (if fenced = true ∨ until_ ≤ now then 4 else if term then 0 else 6) else if kill then 0 else 5
def nextG (t : Task) (k : Look) : Step :=
  if t.state = 0 then ⟨if k.expired || k.other then 0 else 1, 0⟩ else
  if t.state = 3 then ⟨if k.expired || k.other then 0 else if t.due ≤ k.now then 1 else 0, 0⟩ else
  if t.state = 6 ∨ t.state = 7 then ⟨0, 0⟩ else
  if k.has = false then ⟨3, -1⟩ else if k.proc.alive = false then ⟨3, k.proc.code⟩ else ⟨liveG t.state t.until_ k.now k.fenced k.sick k.proc.term k.proc.kill, 0⟩
theorem errT_or (t : Task) : errT t = 0 ∨ errT t = 2 := by unfold errT errF; split <;> simp
theorem errT_le {t : Task} (h : errT t = 0) : t.state ≤ 7 := by
  unfold errT errF at h
  split at h
  · rename_i hg; exact hg.h_st
  · cases h
theorem fin {s s' : Step} (h : s = s') : AV.tup [s.av, I 0] = AV.tup [s'.av, I 0] := by rw [h]
def NzR : Nat → AV → AV → Prop
  | 0, x, y => x = y
  | d + 1, x, y => match x, y with
    | .agg l, .agg m => FzL (NzR d) l m
    | .tup l, .tup m => FzL (NzR d) l m
    | .val (.slice none 0 0), .sl sz n f => n = 0
    | x, y => x = y
theorem AR.nz {N : Nat} {σ : Sg} {F : Nat → Prop} {w : World} : ∀ (d : Nat) (x y : AV) (v : Value), NzR d x y → AR N σ F w x v → AR N σ F w y v := by
  intro d
  induction d with
  | zero => intro x y v e h; cases e; exact h
  | succ d ih =>
    intro x y v e h
    unfold NzR at e
    split at e
    · cases h with
      | agg _ vs hl hh => obtain ⟨e1, e2⟩ := FzL_get e; exact .agg _ vs (by omega) fun i b hb => by obtain ⟨a, ha, hab⟩ := e2 i b hb; exact ih a b _ hab (hh i a ha)
    · cases h with
      | tup _ vs hl hh => obtain ⟨e1, e2⟩ := FzL_get e; exact .tup _ vs (by omega) fun i b hb => by obtain ⟨a, ha, hab⟩ := e2 i b hb; exact ih a b _ hab (hh i a ha)
    · subst e
      cases h
      exact .sl _ _ _ _ (.sl _ _ _ none 0 (fun _ _ => undef) 0 0 (by simp) (fun h => absurd h (by omega)) (fun i hi => absurd hi (by omega)) (fun i j hi => absurd hi (by omega)) (fun i j x hi => absurd hi (by omega)))
    · cases e; exact h
theorem pure_nz {P : Program} {g : FuncId} {args args' : List AV} {r : AV} (h : E.Pure P g args r) (hf : freeL args' = true) (hz : FzL (NzR 4) args' args) : E.Pure P g args' r := by
  obtain ⟨hl, hz⟩ := FzL_get hz
  exact ⟨⟨h.run.ok, fun σ F w vs hw hr => h.run.run σ F w vs hw ⟨hr.1.trans hl, fun i x hx => by obtain ⟨a, ha, hab⟩ := hz i x hx; exact AR.nz 4 a x _ hab (hr.2 i a ha)⟩⟩, hf, h.fr⟩
theorem ret_nz {n0 : Nat} {x x1 : AV} {H : Hp} {K : AV → Hp → Prop} (hx : NzR 4 x x1) (hk : K x1 H) : ∃ x1 H1, Wk n0 [(0, x)] H [(0, x1)] H1 ∧ K x1 H1 :=
  ⟨x1, H, ⟨fun σ F w tmps hn hw hfr => ⟨σ, F, Ext.refl hn, hw, fun s => by
    have := hfr s
    rw [look_cons] at this ⊢
    by_cases c : 0 = s
    · rw [if_pos c] at this ⊢; exact AR.nz 4 _ _ _ hx this
    · rw [if_neg c] at this ⊢; exact this⟩⟩, hk⟩
def thereB (s : State) (a t : Int) : Bool := decide ((0 ≤ a ∧ a < s.allocs.length) ∧ 0 ≤ t ∧ t < (s.allocs.getD a.toNat default).tasks.length)
theorem there_p (s : State) (a t : Int) : Pure Tryz.prog 77 [s.av, I a, I t] (B (thereB s a t)) := by
  refine Pure.ev Tryz.f77 mx Tryz.func77 (by kernel_rfl) rfl rfl rfl ?_ <;> (refine goS ?_ <;> repeat (intro _ <;> refine goS ?_))
  repeat' (refine onB_mk (fun h => ?_) (fun h => ?_) <;> (try rw [h]) <;> (try simp only [decide_eq_true_eq, decide_eq_false_iff_not, beq_iff_eq, beq_eq_false_iff_ne, bne_iff_ne, bne_eq_false_iff_eq, ne_eq, Int.not_lt, Int.not_le, gt_iff_lt, ge_iff_le, Int.ofNat_lt, Int.natCast_inj] at h) <;> (refine goS ?_ <;> repeat (intro _ <;> refine goS ?_)))
  all_goals (refine ret_now _ ?_)
  all_goals first
    | exact congrArg (fun b => B b) (show decide (t < (s.allocs.getD a.toNat default).tasks.length) = thereB s a t from decide_eq_decide.2 ⟨fun h => ⟨⟨by omega, by omega⟩, by omega, h⟩, fun h => h.2.2⟩)
    | exact congrArg (fun b => B b) (show false = thereB s a t from (decide_eq_false (by omega)).symm)
def recR (s : State) (a t : Int) (x : Step) (k : Look) : Rec :=
  if thereB s a t = false ∨ 6 < x.do_ then default else
  if x.do_ = 1 then ⟨4, 0, default, (s.allocs.getD a.toNat default).spec.id, t, k.now, 0, 0, 0, 0⟩ else
  if x.do_ = 2 then ⟨5, 0, default, (s.allocs.getD a.toNat default).spec.id, t, 0, 0, k.proc.pid, k.proc.nonce, 0⟩ else
  if x.do_ = 3 then ⟨8, 0, default, (s.allocs.getD a.toNat default).spec.id, t, k.now, 0, 0, 0, x.code⟩ else
  if x.do_ = 4 then ⟨7, 0, default, (s.allocs.getD a.toNat default).spec.id, t, 0, 0, 0, 0, 0⟩ else default
def recB (s : State) (a t : Int) (x : Step) : Bool := thereB s a t && (x.do_ == 1 || x.do_ == 2 || x.do_ == 3 || x.do_ == 4)
def rkE (s : State) (a t : Int) (x : Step) : Int := if thereB s a t = false then 3 else if 6 < x.do_ then 2 else 0
set_option maxHeartbeats 4000000 in
theorem record_p (s : State) (a t : Int) (x : Step) (k : Look) (h0 : 0 ≤ x.do_) : Pure Tryz.prog 46 [s.av, I a, I t, x.av, k.av] (.tup [(recR s a t x k).av, B (recB s a t x), I (rkE s a t x)]) := by
  have hc := there_p s a t
  unfold recR recB rkE
  cases ht : thereB s a t
  · rw [ht] at hc
    refine Pure.ev Tryz.f46 mx Tryz.func46 (by kernel_rfl) rfl rfl rfl ?_ <;> (refine goS ?_ <;> repeat (intro _ <;> refine goS ?_))
    refine Pure.call hc ?_ <;> (refine goS ?_ <;> repeat (intro _ <;> refine goS ?_))
    refine ret_nz ?_ rfl
    repeat' (first | exact rfl | exact trivial | (refine And.intro ?_ ?_) | (conv => whnf))
  · rw [ht] at hc
    obtain ⟨d, c⟩ := x
    have ha : (0 ≤ a ∧ a < s.allocs.length) := (of_decide_eq_true ht).1
    have hd : d = 0 ∨ d = 1 ∨ d = 2 ∨ d = 3 ∨ d = 4 ∨ d = 5 ∨ d = 6 ∨ 6 < d := by simp only at h0; omega
    clear h0
    rcases hd with rfl | rfl | rfl | rfl | rfl | rfl | rfl | h6
    · refine Pure.ev Tryz.f46 mx Tryz.func46 (by kernel_rfl) rfl rfl rfl ?_ <;> (refine goS ?_ <;> repeat (intro _ <;> refine goS ?_))
      refine Pure.call hc ?_ <;> (refine goS ?_ <;> repeat (intro _ <;> refine goS ?_))
      refine ret_nz ?_ rfl
      repeat' (first | exact rfl | exact trivial | (refine And.intro ?_ ?_) | (conv => whnf))
    · refine Pure.ev Tryz.f46 mx Tryz.func46 (by kernel_rfl) rfl rfl rfl ?_ <;> (refine goS ?_ <;> repeat (intro _ <;> refine goS ?_))
      refine Pure.call hc ?_ <;> (refine goS ?_ <;> repeat (intro _ <;> refine goS ?_))
      refine ret_nz ?_ rfl
      repeat' (first | exact rfl | exact trivial | (refine And.intro ?_ ?_) | (conv => whnf))
    · refine Pure.ev Tryz.f46 mx Tryz.func46 (by kernel_rfl) rfl rfl rfl ?_ <;> (refine goS ?_ <;> repeat (intro _ <;> refine goS ?_))
      refine Pure.call hc ?_ <;> (refine goS ?_ <;> repeat (intro _ <;> refine goS ?_))
      refine ret_nz ?_ rfl
      repeat' (first | exact rfl | exact trivial | (refine And.intro ?_ ?_) | (conv => whnf))
    · refine Pure.ev Tryz.f46 mx Tryz.func46 (by kernel_rfl) rfl rfl rfl ?_ <;> (refine goS ?_ <;> repeat (intro _ <;> refine goS ?_))
      refine Pure.call hc ?_ <;> (refine goS ?_ <;> repeat (intro _ <;> refine goS ?_))
      refine ret_nz ?_ rfl
      repeat' (first | exact rfl | exact trivial | (refine And.intro ?_ ?_) | (conv => whnf))
    · refine Pure.ev Tryz.f46 mx Tryz.func46 (by kernel_rfl) rfl rfl rfl ?_ <;> (refine goS ?_ <;> repeat (intro _ <;> refine goS ?_))
      refine Pure.call hc ?_ <;> (refine goS ?_ <;> repeat (intro _ <;> refine goS ?_))
      refine ret_nz ?_ rfl
      repeat' (first | exact rfl | exact trivial | (refine And.intro ?_ ?_) | (conv => whnf))
    · refine Pure.ev Tryz.f46 mx Tryz.func46 (by kernel_rfl) rfl rfl rfl ?_ <;> (refine goS ?_ <;> repeat (intro _ <;> refine goS ?_))
      refine Pure.call hc ?_ <;> (refine goS ?_ <;> repeat (intro _ <;> refine goS ?_))
      refine ret_nz ?_ rfl
      repeat' (first | exact rfl | exact trivial | (refine And.intro ?_ ?_) | (conv => whnf))
    · refine Pure.ev Tryz.f46 mx Tryz.func46 (by kernel_rfl) rfl rfl rfl ?_ <;> (refine goS ?_ <;> repeat (intro _ <;> refine goS ?_))
      refine Pure.call hc ?_ <;> (refine goS ?_ <;> repeat (intro _ <;> refine goS ?_))
      refine ret_nz ?_ rfl
      repeat' (first | exact rfl | exact trivial | (refine And.intro ?_ ?_) | (conv => whnf))
    · refine Pure.ev Tryz.f46 mx Tryz.func46 (by kernel_rfl) rfl rfl rfl ?_ <;> (refine goS ?_ <;> repeat (intro _ <;> refine goS ?_))
      refine Pure.call hc ?_ <;> (refine goS ?_ <;> repeat (intro _ <;> refine goS ?_))
      refine onB_mk (fun h => ?_) (fun h => absurd h (by simp; omega)) <;> (try rw [h]) <;> (refine goS ?_ <;> repeat (intro _ <;> refine goS ?_))
      refine ret_nz (x1 := .tup [(default : Rec).av, B false, I 2]) ?_ ?_
      · repeat' (first | exact rfl | exact trivial | (refine And.intro ?_ ?_) | (conv => whnf))
      · simp [h6, show d ≠ 1 by omega, show d ≠ 2 by omega, show d ≠ 3 by omega, show d ≠ 4 by omega]
end Go.Proofs.YtdblhmpcilihnaaGreat
