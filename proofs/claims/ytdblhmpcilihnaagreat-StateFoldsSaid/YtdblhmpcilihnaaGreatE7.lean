/- The test of a task: the program's. Printed by gen_tcheck.py. -/
import Derived.Test.YtdblhmpcilihnaaGreatE6
namespace Go.Proofs.YtdblhmpcilihnaaGreat
open Go.RowKit E
set_option maxRecDepth 100000
set_option linter.unusedVariables false
set_option linter.unusedSimpArgs false
def fore (inc : Int) (l : List Int) : Prop := (0 ≤ inc ∧ inc ≤ 1099511627776) ∧ l.length ≤ 8 ∧ (l.length = 0 ↔ inc = 0)
abbrev tav (st inc pid nonce due until_ code : Int) (starts : List Int) : AV := .agg [.val (.int .u8 st), I inc, I pid, I nonce, I due, I until_, I code, slI starts]
theorem all_succ {P : Nat → Prop} {k : Nat} : (∀ j, j < k + 1 → P j) ↔ (∀ j, j < k → P j) ∧ P k :=
  ⟨fun h => ⟨fun j hj => h j (by omega), h k (by omega)⟩, fun h j hj => by rcases Nat.lt_succ_iff_lt_or_eq.1 hj with h1 | rfl; exact h.1 j h1; exact h.2⟩
set_option maxHeartbeats 2000000 in
theorem taskCheck_0 (inc pid nonce due until_ code : Int) (starts : List Int) : Pure Tryz.prog 80 [tav 0 inc pid nonce due until_ code starts] (I (errF 0 inc pid nonce due until_ code starts)) := by
  refine Pure.ev Tryz.f80 mx Tryz.func80 (by kernel_rfl) rfl rfl rfl ?_ <;> (refine goS ?_ <;> repeat (intro _ <;> refine goS ?_))
  repeat' (first
    | (refine onB_mk (fun h => ?_) (fun h => ?_) <;> (try rw [h]) <;> (try simp [-List.getD_eq_getElem?_getD, wl, List.getD_cons_zero, List.getD_cons_succ] at h) <;> (refine goS ?_ <;> repeat (intro _ <;> refine goS ?_)))
    | (refine Pure.call (in_p _ _ _) ?_ <;> (refine goS ?_ <;> repeat (intro _ <;> refine goS ?_))))
  all_goals (refine loop_st (S := Nat × Bool) (fun s => [(1, .hptr 0 8 0 0), (32, slI starts), (33, I starts.length), (34, I s.1), (3, B s.2)]) (fun _ => ⟨1, [(0, some ⟨8, [[.val (.int .u8 0), I inc, I pid, I nonce, I due, I until_, I code, slI starts]], none⟩)]⟩) (fun s => s.1 ≤ starts.length ∧ (s.2 = true ↔ fore inc starts ∧ ∀ j, j < s.1 → goodAt starts j)) (fun s => starts.length - s.1) (0, _) (Wk.cut rfl ⟨⟨rfl, rfl⟩, ⟨rfl, rfl⟩, ⟨rfl, rfl⟩, ⟨rfl, rfl⟩, ⟨rfl, rfl⟩, trivial⟩ ⟨⟨rfl, rfl, row1 rfl, nofun⟩, trivial⟩) ⟨Nat.zero_le _, ?_⟩ ?_)
  all_goals first
    | (simp only [Nat.not_lt_zero, false_implies, implies_true, and_true, fore]
       simp only [beq_iff_eq, bb, Bool.false_eq_true, false_iff]
       omega)
    | (exact ⟨fun hh => (by cases hh), fun hh => hh.1.elim⟩)
    | skip
  all_goals (rintro ⟨k, b⟩ ⟨hk, hb⟩)
  all_goals (have hl9 : starts.length ≤ 9223372036854775807 := by assumption)
  all_goals (replace hk : k ≤ starts.length := hk)
  all_goals (replace hb : b = true ↔ fore inc starts ∧ ∀ j, j < k → goodAt starts j := hb)
  all_goals (dsimp only)
  all_goals (have hw : ∀ m : Nat, (m : Int).toNat = m := fun m => Int.toNat_natCast m)
  all_goals cases b
  all_goals (refine goS ?_ <;> repeat (intro _ <;> refine goS ?_))
  all_goals repeat' (first
    | (refine onB_mk (fun h => ?_) (fun h => ?_) <;> (try rw [h]) <;> (try simp [-List.getD_eq_getElem?_getD, wl, List.getD_cons_zero, List.getD_cons_succ] at h) <;> (refine goS ?_ <;> repeat (intro _ <;> refine goS ?_)))
    | (refine Pure.call (in_p _ _ _) ?_ <;> (refine goS ?_ <;> repeat (intro _ <;> refine goS ?_)))
    | (refine Pure.call (only_p _ _ _) ?_ <;> (refine goS ?_ <;> repeat (intro _ <;> refine goS ?_)))
    | (rw [wrapP (by omega) (by omega)] <;> (refine goS ?_ <;> repeat (intro _ <;> refine goS ?_))))
  all_goals first
    | (refine ⟨(k + 1, false), by simp only []; omega, ⟨by simp only []; omega, ?_⟩, Wk.cut rfl ⟨⟨rfl, rfl⟩, ⟨rfl, rfl⟩, ⟨rfl, rfl⟩, ⟨by simp only [← wrapS (show k < 9223372036854775807 by omega)]; rfl, rfl⟩, ⟨rfl, rfl⟩, trivial⟩ ⟨⟨rfl, rfl, row1 rfl, nofun⟩, trivial⟩⟩
       show false = true ↔ fore inc starts ∧ ∀ j, j < k + 1 → goodAt starts j
       first
       | (have hn : ¬ (fore inc starts ∧ ∀ j, j < k → goodAt starts j) := fun hh => absurd (hb.2 hh) (by decide)
          exact ⟨fun hh => (by cases hh), fun hh => absurd ⟨hh.1, (all_succ.1 hh.2).1⟩ hn⟩)
       | (have hp := hb.1 rfl; have e : (fore inc starts ∧ ∀ j, j < k + 1 → goodAt starts j) ↔ goodAt starts k := ⟨fun hh => hh.2 k (by omega), fun hh => ⟨hp.1, all_succ.2 ⟨hp.2, hh⟩⟩⟩
          rw [e]; unfold goodAt; exact ⟨fun hh => (by cases hh), fun hh => by have := hh.1; omega⟩))
    | (refine ⟨(k + 1, true), by simp only []; omega, ⟨by simp only []; omega, ?_⟩, Wk.cut rfl ⟨⟨rfl, rfl⟩, ⟨rfl, rfl⟩, ⟨rfl, rfl⟩, ⟨by simp only [← wrapS (show k < 9223372036854775807 by omega)]; rfl, rfl⟩, ⟨rfl, rfl⟩, trivial⟩ ⟨⟨rfl, rfl, row1 rfl, nofun⟩, trivial⟩⟩
       show true = true ↔ fore inc starts ∧ ∀ j, j < k + 1 → goodAt starts j
       have hp := hb.1 rfl; have e : (fore inc starts ∧ ∀ j, j < k + 1 → goodAt starts j) ↔ goodAt starts k := ⟨fun hh => hh.2 k (by omega), fun hh => ⟨hp.1, all_succ.2 ⟨hp.2, hh⟩⟩⟩
       rw [e]; unfold goodAt; exact ⟨fun _ => ⟨by omega, fun _ => by omega⟩, fun _ => rfl⟩)
    | (refine ⟨(k + 1, decide (starts.getD k 0 ≥ starts.getD (k - 1) 0)), by simp only []; omega, ⟨by simp only []; omega, ?_⟩, Wk.cut rfl ⟨⟨rfl, rfl⟩, ⟨rfl, rfl⟩, ⟨rfl, rfl⟩, ⟨by simp only [← wrapS (show k < 9223372036854775807 by omega)]; rfl, rfl⟩, ⟨rfl, rfl⟩, trivial⟩ ⟨⟨rfl, rfl, row1 rfl, nofun⟩, trivial⟩⟩
       show decide (starts.getD k 0 ≥ starts.getD (k - 1) 0) = true ↔ fore inc starts ∧ ∀ j, j < k + 1 → goodAt starts j
       have hp := hb.1 rfl; have e : (fore inc starts ∧ ∀ j, j < k + 1 → goodAt starts j) ↔ goodAt starts k := ⟨fun hh => hh.2 k (by omega), fun hh => ⟨hp.1, all_succ.2 ⟨hp.2, hh⟩⟩⟩
       rw [e, decide_eq_true_iff]; unfold goodAt; exact ⟨fun hh => ⟨by omega, fun _ => by omega⟩, fun hh => by have := hh.2 (by omega); omega⟩)
    | skip
  all_goals (refine ret_now _ ?_)
  all_goals first
    | (exact (hb.1 rfl).1.elim)
    | (exfalso; have hp := hb.1 rfl; have hp1 := hp.1; unfold fore at hp1; clear hb hw hp; omega)
    | (rw [errF_no fun hg => by
        have h1 := hg.h_st; have h2 := hg.h_inc0; have h3 := hg.h_inc1; have h4 := hg.h_len; have h5 := hg.h_emp; have h6 := hg.h_pend; have h7 := hg.h_none; have h8 := hg.h_pid; have h9 := hg.h_nonce; have h10 := hg.h_due; have h11 := hg.h_until_
        have hbb := hb.2 ⟨⟨⟨h2, h3⟩, h4, h5⟩, fun j hj => hg.h_srt j (by omega)⟩; first | (cases hbb; done) | (clear hb hw hg; omega)])
    | (have hp := hb.1 rfl; have hp1 := hp.1; unfold fore at hp1
       rw [errF_yes ⟨by omega, by omega, by omega, by omega, by omega, fun j hj => hp.2 j (by omega), by omega, by omega, by omega, by omega, by omega, by omega⟩])

set_option maxHeartbeats 2000000 in
theorem taskCheck_1 (inc pid nonce due until_ code : Int) (starts : List Int) : Pure Tryz.prog 80 [tav 1 inc pid nonce due until_ code starts] (I (errF 1 inc pid nonce due until_ code starts)) := by
  refine Pure.ev Tryz.f80 mx Tryz.func80 (by kernel_rfl) rfl rfl rfl ?_ <;> (refine goS ?_ <;> repeat (intro _ <;> refine goS ?_))
  repeat' (first
    | (refine onB_mk (fun h => ?_) (fun h => ?_) <;> (try rw [h]) <;> (try simp [-List.getD_eq_getElem?_getD, wl, List.getD_cons_zero, List.getD_cons_succ] at h) <;> (refine goS ?_ <;> repeat (intro _ <;> refine goS ?_)))
    | (refine Pure.call (in_p _ _ _) ?_ <;> (refine goS ?_ <;> repeat (intro _ <;> refine goS ?_))))
  all_goals (refine loop_st (S := Nat × Bool) (fun s => [(1, .hptr 0 8 0 0), (32, slI starts), (33, I starts.length), (34, I s.1), (3, B s.2)]) (fun _ => ⟨1, [(0, some ⟨8, [[.val (.int .u8 1), I inc, I pid, I nonce, I due, I until_, I code, slI starts]], none⟩)]⟩) (fun s => s.1 ≤ starts.length ∧ (s.2 = true ↔ fore inc starts ∧ ∀ j, j < s.1 → goodAt starts j)) (fun s => starts.length - s.1) (0, _) (Wk.cut rfl ⟨⟨rfl, rfl⟩, ⟨rfl, rfl⟩, ⟨rfl, rfl⟩, ⟨rfl, rfl⟩, ⟨rfl, rfl⟩, trivial⟩ ⟨⟨rfl, rfl, row1 rfl, nofun⟩, trivial⟩) ⟨Nat.zero_le _, ?_⟩ ?_)
  all_goals first
    | (simp only [Nat.not_lt_zero, false_implies, implies_true, and_true, fore]
       simp only [beq_iff_eq, bb, Bool.false_eq_true, false_iff]
       omega)
    | (exact ⟨fun hh => (by cases hh), fun hh => hh.1.elim⟩)
    | skip
  all_goals (rintro ⟨k, b⟩ ⟨hk, hb⟩)
  all_goals (have hl9 : starts.length ≤ 9223372036854775807 := by assumption)
  all_goals (replace hk : k ≤ starts.length := hk)
  all_goals (replace hb : b = true ↔ fore inc starts ∧ ∀ j, j < k → goodAt starts j := hb)
  all_goals (dsimp only)
  all_goals (have hw : ∀ m : Nat, (m : Int).toNat = m := fun m => Int.toNat_natCast m)
  all_goals cases b
  all_goals (refine goS ?_ <;> repeat (intro _ <;> refine goS ?_))
  all_goals repeat' (first
    | (refine onB_mk (fun h => ?_) (fun h => ?_) <;> (try rw [h]) <;> (try simp [-List.getD_eq_getElem?_getD, wl, List.getD_cons_zero, List.getD_cons_succ] at h) <;> (refine goS ?_ <;> repeat (intro _ <;> refine goS ?_)))
    | (refine Pure.call (in_p _ _ _) ?_ <;> (refine goS ?_ <;> repeat (intro _ <;> refine goS ?_)))
    | (refine Pure.call (only_p _ _ _) ?_ <;> (refine goS ?_ <;> repeat (intro _ <;> refine goS ?_)))
    | (rw [wrapP (by omega) (by omega)] <;> (refine goS ?_ <;> repeat (intro _ <;> refine goS ?_))))
  all_goals first
    | (refine ⟨(k + 1, false), by simp only []; omega, ⟨by simp only []; omega, ?_⟩, Wk.cut rfl ⟨⟨rfl, rfl⟩, ⟨rfl, rfl⟩, ⟨rfl, rfl⟩, ⟨by simp only [← wrapS (show k < 9223372036854775807 by omega)]; rfl, rfl⟩, ⟨rfl, rfl⟩, trivial⟩ ⟨⟨rfl, rfl, row1 rfl, nofun⟩, trivial⟩⟩
       show false = true ↔ fore inc starts ∧ ∀ j, j < k + 1 → goodAt starts j
       first
       | (have hn : ¬ (fore inc starts ∧ ∀ j, j < k → goodAt starts j) := fun hh => absurd (hb.2 hh) (by decide)
          exact ⟨fun hh => (by cases hh), fun hh => absurd ⟨hh.1, (all_succ.1 hh.2).1⟩ hn⟩)
       | (have hp := hb.1 rfl; have e : (fore inc starts ∧ ∀ j, j < k + 1 → goodAt starts j) ↔ goodAt starts k := ⟨fun hh => hh.2 k (by omega), fun hh => ⟨hp.1, all_succ.2 ⟨hp.2, hh⟩⟩⟩
          rw [e]; unfold goodAt; exact ⟨fun hh => (by cases hh), fun hh => by have := hh.1; omega⟩))
    | (refine ⟨(k + 1, true), by simp only []; omega, ⟨by simp only []; omega, ?_⟩, Wk.cut rfl ⟨⟨rfl, rfl⟩, ⟨rfl, rfl⟩, ⟨rfl, rfl⟩, ⟨by simp only [← wrapS (show k < 9223372036854775807 by omega)]; rfl, rfl⟩, ⟨rfl, rfl⟩, trivial⟩ ⟨⟨rfl, rfl, row1 rfl, nofun⟩, trivial⟩⟩
       show true = true ↔ fore inc starts ∧ ∀ j, j < k + 1 → goodAt starts j
       have hp := hb.1 rfl; have e : (fore inc starts ∧ ∀ j, j < k + 1 → goodAt starts j) ↔ goodAt starts k := ⟨fun hh => hh.2 k (by omega), fun hh => ⟨hp.1, all_succ.2 ⟨hp.2, hh⟩⟩⟩
       rw [e]; unfold goodAt; exact ⟨fun _ => ⟨by omega, fun _ => by omega⟩, fun _ => rfl⟩)
    | (refine ⟨(k + 1, decide (starts.getD k 0 ≥ starts.getD (k - 1) 0)), by simp only []; omega, ⟨by simp only []; omega, ?_⟩, Wk.cut rfl ⟨⟨rfl, rfl⟩, ⟨rfl, rfl⟩, ⟨rfl, rfl⟩, ⟨by simp only [← wrapS (show k < 9223372036854775807 by omega)]; rfl, rfl⟩, ⟨rfl, rfl⟩, trivial⟩ ⟨⟨rfl, rfl, row1 rfl, nofun⟩, trivial⟩⟩
       show decide (starts.getD k 0 ≥ starts.getD (k - 1) 0) = true ↔ fore inc starts ∧ ∀ j, j < k + 1 → goodAt starts j
       have hp := hb.1 rfl; have e : (fore inc starts ∧ ∀ j, j < k + 1 → goodAt starts j) ↔ goodAt starts k := ⟨fun hh => hh.2 k (by omega), fun hh => ⟨hp.1, all_succ.2 ⟨hp.2, hh⟩⟩⟩
       rw [e, decide_eq_true_iff]; unfold goodAt; exact ⟨fun hh => ⟨by omega, fun _ => by omega⟩, fun hh => by have := hh.2 (by omega); omega⟩)
    | skip
  all_goals (refine ret_now _ ?_)
  all_goals first
    | (exact (hb.1 rfl).1.elim)
    | (exfalso; have hp := hb.1 rfl; have hp1 := hp.1; unfold fore at hp1; clear hb hw hp; omega)
    | (rw [errF_no fun hg => by
        have h1 := hg.h_st; have h2 := hg.h_inc0; have h3 := hg.h_inc1; have h4 := hg.h_len; have h5 := hg.h_emp; have h6 := hg.h_pend; have h7 := hg.h_none; have h8 := hg.h_pid; have h9 := hg.h_nonce; have h10 := hg.h_due; have h11 := hg.h_until_
        have hbb := hb.2 ⟨⟨⟨h2, h3⟩, h4, h5⟩, fun j hj => hg.h_srt j (by omega)⟩; first | (cases hbb; done) | (clear hb hw hg; omega)])
    | (have hp := hb.1 rfl; have hp1 := hp.1; unfold fore at hp1
       rw [errF_yes ⟨by omega, by omega, by omega, by omega, by omega, fun j hj => hp.2 j (by omega), by omega, by omega, by omega, by omega, by omega, by omega⟩])

set_option maxHeartbeats 2000000 in
theorem taskCheck_2 (inc pid nonce due until_ code : Int) (starts : List Int) : Pure Tryz.prog 80 [tav 2 inc pid nonce due until_ code starts] (I (errF 2 inc pid nonce due until_ code starts)) := by
  refine Pure.ev Tryz.f80 mx Tryz.func80 (by kernel_rfl) rfl rfl rfl ?_ <;> (refine goS ?_ <;> repeat (intro _ <;> refine goS ?_))
  repeat' (first
    | (refine onB_mk (fun h => ?_) (fun h => ?_) <;> (try rw [h]) <;> (try simp [-List.getD_eq_getElem?_getD, wl, List.getD_cons_zero, List.getD_cons_succ] at h) <;> (refine goS ?_ <;> repeat (intro _ <;> refine goS ?_)))
    | (refine Pure.call (in_p _ _ _) ?_ <;> (refine goS ?_ <;> repeat (intro _ <;> refine goS ?_))))
  all_goals (refine loop_st (S := Nat × Bool) (fun s => [(1, .hptr 0 8 0 0), (32, slI starts), (33, I starts.length), (34, I s.1), (3, B s.2)]) (fun _ => ⟨1, [(0, some ⟨8, [[.val (.int .u8 2), I inc, I pid, I nonce, I due, I until_, I code, slI starts]], none⟩)]⟩) (fun s => s.1 ≤ starts.length ∧ (s.2 = true ↔ fore inc starts ∧ ∀ j, j < s.1 → goodAt starts j)) (fun s => starts.length - s.1) (0, _) (Wk.cut rfl ⟨⟨rfl, rfl⟩, ⟨rfl, rfl⟩, ⟨rfl, rfl⟩, ⟨rfl, rfl⟩, ⟨rfl, rfl⟩, trivial⟩ ⟨⟨rfl, rfl, row1 rfl, nofun⟩, trivial⟩) ⟨Nat.zero_le _, ?_⟩ ?_)
  all_goals first
    | (simp only [Nat.not_lt_zero, false_implies, implies_true, and_true, fore]
       simp only [beq_iff_eq, bb, Bool.false_eq_true, false_iff]
       omega)
    | (exact ⟨fun hh => (by cases hh), fun hh => hh.1.elim⟩)
    | skip
  all_goals (rintro ⟨k, b⟩ ⟨hk, hb⟩)
  all_goals (have hl9 : starts.length ≤ 9223372036854775807 := by assumption)
  all_goals (replace hk : k ≤ starts.length := hk)
  all_goals (replace hb : b = true ↔ fore inc starts ∧ ∀ j, j < k → goodAt starts j := hb)
  all_goals (dsimp only)
  all_goals (have hw : ∀ m : Nat, (m : Int).toNat = m := fun m => Int.toNat_natCast m)
  all_goals cases b
  all_goals (refine goS ?_ <;> repeat (intro _ <;> refine goS ?_))
  all_goals repeat' (first
    | (refine onB_mk (fun h => ?_) (fun h => ?_) <;> (try rw [h]) <;> (try simp [-List.getD_eq_getElem?_getD, wl, List.getD_cons_zero, List.getD_cons_succ] at h) <;> (refine goS ?_ <;> repeat (intro _ <;> refine goS ?_)))
    | (refine Pure.call (in_p _ _ _) ?_ <;> (refine goS ?_ <;> repeat (intro _ <;> refine goS ?_)))
    | (refine Pure.call (only_p _ _ _) ?_ <;> (refine goS ?_ <;> repeat (intro _ <;> refine goS ?_)))
    | (rw [wrapP (by omega) (by omega)] <;> (refine goS ?_ <;> repeat (intro _ <;> refine goS ?_))))
  all_goals first
    | (refine ⟨(k + 1, false), by simp only []; omega, ⟨by simp only []; omega, ?_⟩, Wk.cut rfl ⟨⟨rfl, rfl⟩, ⟨rfl, rfl⟩, ⟨rfl, rfl⟩, ⟨by simp only [← wrapS (show k < 9223372036854775807 by omega)]; rfl, rfl⟩, ⟨rfl, rfl⟩, trivial⟩ ⟨⟨rfl, rfl, row1 rfl, nofun⟩, trivial⟩⟩
       show false = true ↔ fore inc starts ∧ ∀ j, j < k + 1 → goodAt starts j
       first
       | (have hn : ¬ (fore inc starts ∧ ∀ j, j < k → goodAt starts j) := fun hh => absurd (hb.2 hh) (by decide)
          exact ⟨fun hh => (by cases hh), fun hh => absurd ⟨hh.1, (all_succ.1 hh.2).1⟩ hn⟩)
       | (have hp := hb.1 rfl; have e : (fore inc starts ∧ ∀ j, j < k + 1 → goodAt starts j) ↔ goodAt starts k := ⟨fun hh => hh.2 k (by omega), fun hh => ⟨hp.1, all_succ.2 ⟨hp.2, hh⟩⟩⟩
          rw [e]; unfold goodAt; exact ⟨fun hh => (by cases hh), fun hh => by have := hh.1; omega⟩))
    | (refine ⟨(k + 1, true), by simp only []; omega, ⟨by simp only []; omega, ?_⟩, Wk.cut rfl ⟨⟨rfl, rfl⟩, ⟨rfl, rfl⟩, ⟨rfl, rfl⟩, ⟨by simp only [← wrapS (show k < 9223372036854775807 by omega)]; rfl, rfl⟩, ⟨rfl, rfl⟩, trivial⟩ ⟨⟨rfl, rfl, row1 rfl, nofun⟩, trivial⟩⟩
       show true = true ↔ fore inc starts ∧ ∀ j, j < k + 1 → goodAt starts j
       have hp := hb.1 rfl; have e : (fore inc starts ∧ ∀ j, j < k + 1 → goodAt starts j) ↔ goodAt starts k := ⟨fun hh => hh.2 k (by omega), fun hh => ⟨hp.1, all_succ.2 ⟨hp.2, hh⟩⟩⟩
       rw [e]; unfold goodAt; exact ⟨fun _ => ⟨by omega, fun _ => by omega⟩, fun _ => rfl⟩)
    | (refine ⟨(k + 1, decide (starts.getD k 0 ≥ starts.getD (k - 1) 0)), by simp only []; omega, ⟨by simp only []; omega, ?_⟩, Wk.cut rfl ⟨⟨rfl, rfl⟩, ⟨rfl, rfl⟩, ⟨rfl, rfl⟩, ⟨by simp only [← wrapS (show k < 9223372036854775807 by omega)]; rfl, rfl⟩, ⟨rfl, rfl⟩, trivial⟩ ⟨⟨rfl, rfl, row1 rfl, nofun⟩, trivial⟩⟩
       show decide (starts.getD k 0 ≥ starts.getD (k - 1) 0) = true ↔ fore inc starts ∧ ∀ j, j < k + 1 → goodAt starts j
       have hp := hb.1 rfl; have e : (fore inc starts ∧ ∀ j, j < k + 1 → goodAt starts j) ↔ goodAt starts k := ⟨fun hh => hh.2 k (by omega), fun hh => ⟨hp.1, all_succ.2 ⟨hp.2, hh⟩⟩⟩
       rw [e, decide_eq_true_iff]; unfold goodAt; exact ⟨fun hh => ⟨by omega, fun _ => by omega⟩, fun hh => by have := hh.2 (by omega); omega⟩)
    | skip
  all_goals (refine ret_now _ ?_)
  all_goals first
    | (exact (hb.1 rfl).1.elim)
    | (exfalso; have hp := hb.1 rfl; have hp1 := hp.1; unfold fore at hp1; clear hb hw hp; omega)
    | (rw [errF_no fun hg => by
        have h1 := hg.h_st; have h2 := hg.h_inc0; have h3 := hg.h_inc1; have h4 := hg.h_len; have h5 := hg.h_emp; have h6 := hg.h_pend; have h7 := hg.h_none; have h8 := hg.h_pid; have h9 := hg.h_nonce; have h10 := hg.h_due; have h11 := hg.h_until_
        have hbb := hb.2 ⟨⟨⟨h2, h3⟩, h4, h5⟩, fun j hj => hg.h_srt j (by omega)⟩; first | (cases hbb; done) | (clear hb hw hg; omega)])
    | (have hp := hb.1 rfl; have hp1 := hp.1; unfold fore at hp1
       rw [errF_yes ⟨by omega, by omega, by omega, by omega, by omega, fun j hj => hp.2 j (by omega), by omega, by omega, by omega, by omega, by omega, by omega⟩])

set_option maxHeartbeats 2000000 in
theorem taskCheck_3 (inc pid nonce due until_ code : Int) (starts : List Int) : Pure Tryz.prog 80 [tav 3 inc pid nonce due until_ code starts] (I (errF 3 inc pid nonce due until_ code starts)) := by
  refine Pure.ev Tryz.f80 mx Tryz.func80 (by kernel_rfl) rfl rfl rfl ?_ <;> (refine goS ?_ <;> repeat (intro _ <;> refine goS ?_))
  repeat' (first
    | (refine onB_mk (fun h => ?_) (fun h => ?_) <;> (try rw [h]) <;> (try simp [-List.getD_eq_getElem?_getD, wl, List.getD_cons_zero, List.getD_cons_succ] at h) <;> (refine goS ?_ <;> repeat (intro _ <;> refine goS ?_)))
    | (refine Pure.call (in_p _ _ _) ?_ <;> (refine goS ?_ <;> repeat (intro _ <;> refine goS ?_))))
  all_goals (refine loop_st (S := Nat × Bool) (fun s => [(1, .hptr 0 8 0 0), (32, slI starts), (33, I starts.length), (34, I s.1), (3, B s.2)]) (fun _ => ⟨1, [(0, some ⟨8, [[.val (.int .u8 3), I inc, I pid, I nonce, I due, I until_, I code, slI starts]], none⟩)]⟩) (fun s => s.1 ≤ starts.length ∧ (s.2 = true ↔ fore inc starts ∧ ∀ j, j < s.1 → goodAt starts j)) (fun s => starts.length - s.1) (0, _) (Wk.cut rfl ⟨⟨rfl, rfl⟩, ⟨rfl, rfl⟩, ⟨rfl, rfl⟩, ⟨rfl, rfl⟩, ⟨rfl, rfl⟩, trivial⟩ ⟨⟨rfl, rfl, row1 rfl, nofun⟩, trivial⟩) ⟨Nat.zero_le _, ?_⟩ ?_)
  all_goals first
    | (simp only [Nat.not_lt_zero, false_implies, implies_true, and_true, fore]
       simp only [beq_iff_eq, bb, Bool.false_eq_true, false_iff]
       omega)
    | (exact ⟨fun hh => (by cases hh), fun hh => hh.1.elim⟩)
    | skip
  all_goals (rintro ⟨k, b⟩ ⟨hk, hb⟩)
  all_goals (have hl9 : starts.length ≤ 9223372036854775807 := by assumption)
  all_goals (replace hk : k ≤ starts.length := hk)
  all_goals (replace hb : b = true ↔ fore inc starts ∧ ∀ j, j < k → goodAt starts j := hb)
  all_goals (dsimp only)
  all_goals (have hw : ∀ m : Nat, (m : Int).toNat = m := fun m => Int.toNat_natCast m)
  all_goals cases b
  all_goals (refine goS ?_ <;> repeat (intro _ <;> refine goS ?_))
  all_goals repeat' (first
    | (refine onB_mk (fun h => ?_) (fun h => ?_) <;> (try rw [h]) <;> (try simp [-List.getD_eq_getElem?_getD, wl, List.getD_cons_zero, List.getD_cons_succ] at h) <;> (refine goS ?_ <;> repeat (intro _ <;> refine goS ?_)))
    | (refine Pure.call (in_p _ _ _) ?_ <;> (refine goS ?_ <;> repeat (intro _ <;> refine goS ?_)))
    | (refine Pure.call (only_p _ _ _) ?_ <;> (refine goS ?_ <;> repeat (intro _ <;> refine goS ?_)))
    | (rw [wrapP (by omega) (by omega)] <;> (refine goS ?_ <;> repeat (intro _ <;> refine goS ?_))))
  all_goals first
    | (refine ⟨(k + 1, false), by simp only []; omega, ⟨by simp only []; omega, ?_⟩, Wk.cut rfl ⟨⟨rfl, rfl⟩, ⟨rfl, rfl⟩, ⟨rfl, rfl⟩, ⟨by simp only [← wrapS (show k < 9223372036854775807 by omega)]; rfl, rfl⟩, ⟨rfl, rfl⟩, trivial⟩ ⟨⟨rfl, rfl, row1 rfl, nofun⟩, trivial⟩⟩
       show false = true ↔ fore inc starts ∧ ∀ j, j < k + 1 → goodAt starts j
       first
       | (have hn : ¬ (fore inc starts ∧ ∀ j, j < k → goodAt starts j) := fun hh => absurd (hb.2 hh) (by decide)
          exact ⟨fun hh => (by cases hh), fun hh => absurd ⟨hh.1, (all_succ.1 hh.2).1⟩ hn⟩)
       | (have hp := hb.1 rfl; have e : (fore inc starts ∧ ∀ j, j < k + 1 → goodAt starts j) ↔ goodAt starts k := ⟨fun hh => hh.2 k (by omega), fun hh => ⟨hp.1, all_succ.2 ⟨hp.2, hh⟩⟩⟩
          rw [e]; unfold goodAt; exact ⟨fun hh => (by cases hh), fun hh => by have := hh.1; omega⟩))
    | (refine ⟨(k + 1, true), by simp only []; omega, ⟨by simp only []; omega, ?_⟩, Wk.cut rfl ⟨⟨rfl, rfl⟩, ⟨rfl, rfl⟩, ⟨rfl, rfl⟩, ⟨by simp only [← wrapS (show k < 9223372036854775807 by omega)]; rfl, rfl⟩, ⟨rfl, rfl⟩, trivial⟩ ⟨⟨rfl, rfl, row1 rfl, nofun⟩, trivial⟩⟩
       show true = true ↔ fore inc starts ∧ ∀ j, j < k + 1 → goodAt starts j
       have hp := hb.1 rfl; have e : (fore inc starts ∧ ∀ j, j < k + 1 → goodAt starts j) ↔ goodAt starts k := ⟨fun hh => hh.2 k (by omega), fun hh => ⟨hp.1, all_succ.2 ⟨hp.2, hh⟩⟩⟩
       rw [e]; unfold goodAt; exact ⟨fun _ => ⟨by omega, fun _ => by omega⟩, fun _ => rfl⟩)
    | (refine ⟨(k + 1, decide (starts.getD k 0 ≥ starts.getD (k - 1) 0)), by simp only []; omega, ⟨by simp only []; omega, ?_⟩, Wk.cut rfl ⟨⟨rfl, rfl⟩, ⟨rfl, rfl⟩, ⟨rfl, rfl⟩, ⟨by simp only [← wrapS (show k < 9223372036854775807 by omega)]; rfl, rfl⟩, ⟨rfl, rfl⟩, trivial⟩ ⟨⟨rfl, rfl, row1 rfl, nofun⟩, trivial⟩⟩
       show decide (starts.getD k 0 ≥ starts.getD (k - 1) 0) = true ↔ fore inc starts ∧ ∀ j, j < k + 1 → goodAt starts j
       have hp := hb.1 rfl; have e : (fore inc starts ∧ ∀ j, j < k + 1 → goodAt starts j) ↔ goodAt starts k := ⟨fun hh => hh.2 k (by omega), fun hh => ⟨hp.1, all_succ.2 ⟨hp.2, hh⟩⟩⟩
       rw [e, decide_eq_true_iff]; unfold goodAt; exact ⟨fun hh => ⟨by omega, fun _ => by omega⟩, fun hh => by have := hh.2 (by omega); omega⟩)
    | skip
  all_goals (refine ret_now _ ?_)
  all_goals first
    | (exact (hb.1 rfl).1.elim)
    | (exfalso; have hp := hb.1 rfl; have hp1 := hp.1; unfold fore at hp1; clear hb hw hp; omega)
    | (rw [errF_no fun hg => by
        have h1 := hg.h_st; have h2 := hg.h_inc0; have h3 := hg.h_inc1; have h4 := hg.h_len; have h5 := hg.h_emp; have h6 := hg.h_pend; have h7 := hg.h_none; have h8 := hg.h_pid; have h9 := hg.h_nonce; have h10 := hg.h_due; have h11 := hg.h_until_
        have hbb := hb.2 ⟨⟨⟨h2, h3⟩, h4, h5⟩, fun j hj => hg.h_srt j (by omega)⟩; first | (cases hbb; done) | (clear hb hw hg; omega)])
    | (have hp := hb.1 rfl; have hp1 := hp.1; unfold fore at hp1
       rw [errF_yes ⟨by omega, by omega, by omega, by omega, by omega, fun j hj => hp.2 j (by omega), by omega, by omega, by omega, by omega, by omega, by omega⟩])

set_option maxHeartbeats 2000000 in
theorem taskCheck_4 (inc pid nonce due until_ code : Int) (starts : List Int) : Pure Tryz.prog 80 [tav 4 inc pid nonce due until_ code starts] (I (errF 4 inc pid nonce due until_ code starts)) := by
  refine Pure.ev Tryz.f80 mx Tryz.func80 (by kernel_rfl) rfl rfl rfl ?_ <;> (refine goS ?_ <;> repeat (intro _ <;> refine goS ?_))
  repeat' (first
    | (refine onB_mk (fun h => ?_) (fun h => ?_) <;> (try rw [h]) <;> (try simp [-List.getD_eq_getElem?_getD, wl, List.getD_cons_zero, List.getD_cons_succ] at h) <;> (refine goS ?_ <;> repeat (intro _ <;> refine goS ?_)))
    | (refine Pure.call (in_p _ _ _) ?_ <;> (refine goS ?_ <;> repeat (intro _ <;> refine goS ?_))))
  all_goals (refine loop_st (S := Nat × Bool) (fun s => [(1, .hptr 0 8 0 0), (32, slI starts), (33, I starts.length), (34, I s.1), (3, B s.2)]) (fun _ => ⟨1, [(0, some ⟨8, [[.val (.int .u8 4), I inc, I pid, I nonce, I due, I until_, I code, slI starts]], none⟩)]⟩) (fun s => s.1 ≤ starts.length ∧ (s.2 = true ↔ fore inc starts ∧ ∀ j, j < s.1 → goodAt starts j)) (fun s => starts.length - s.1) (0, _) (Wk.cut rfl ⟨⟨rfl, rfl⟩, ⟨rfl, rfl⟩, ⟨rfl, rfl⟩, ⟨rfl, rfl⟩, ⟨rfl, rfl⟩, trivial⟩ ⟨⟨rfl, rfl, row1 rfl, nofun⟩, trivial⟩) ⟨Nat.zero_le _, ?_⟩ ?_)
  all_goals first
    | (simp only [Nat.not_lt_zero, false_implies, implies_true, and_true, fore]
       simp only [beq_iff_eq, bb, Bool.false_eq_true, false_iff]
       omega)
    | (exact ⟨fun hh => (by cases hh), fun hh => hh.1.elim⟩)
    | skip
  all_goals (rintro ⟨k, b⟩ ⟨hk, hb⟩)
  all_goals (have hl9 : starts.length ≤ 9223372036854775807 := by assumption)
  all_goals (replace hk : k ≤ starts.length := hk)
  all_goals (replace hb : b = true ↔ fore inc starts ∧ ∀ j, j < k → goodAt starts j := hb)
  all_goals (dsimp only)
  all_goals (have hw : ∀ m : Nat, (m : Int).toNat = m := fun m => Int.toNat_natCast m)
  all_goals cases b
  all_goals (refine goS ?_ <;> repeat (intro _ <;> refine goS ?_))
  all_goals repeat' (first
    | (refine onB_mk (fun h => ?_) (fun h => ?_) <;> (try rw [h]) <;> (try simp [-List.getD_eq_getElem?_getD, wl, List.getD_cons_zero, List.getD_cons_succ] at h) <;> (refine goS ?_ <;> repeat (intro _ <;> refine goS ?_)))
    | (refine Pure.call (in_p _ _ _) ?_ <;> (refine goS ?_ <;> repeat (intro _ <;> refine goS ?_)))
    | (refine Pure.call (only_p _ _ _) ?_ <;> (refine goS ?_ <;> repeat (intro _ <;> refine goS ?_)))
    | (rw [wrapP (by omega) (by omega)] <;> (refine goS ?_ <;> repeat (intro _ <;> refine goS ?_))))
  all_goals first
    | (refine ⟨(k + 1, false), by simp only []; omega, ⟨by simp only []; omega, ?_⟩, Wk.cut rfl ⟨⟨rfl, rfl⟩, ⟨rfl, rfl⟩, ⟨rfl, rfl⟩, ⟨by simp only [← wrapS (show k < 9223372036854775807 by omega)]; rfl, rfl⟩, ⟨rfl, rfl⟩, trivial⟩ ⟨⟨rfl, rfl, row1 rfl, nofun⟩, trivial⟩⟩
       show false = true ↔ fore inc starts ∧ ∀ j, j < k + 1 → goodAt starts j
       first
       | (have hn : ¬ (fore inc starts ∧ ∀ j, j < k → goodAt starts j) := fun hh => absurd (hb.2 hh) (by decide)
          exact ⟨fun hh => (by cases hh), fun hh => absurd ⟨hh.1, (all_succ.1 hh.2).1⟩ hn⟩)
       | (have hp := hb.1 rfl; have e : (fore inc starts ∧ ∀ j, j < k + 1 → goodAt starts j) ↔ goodAt starts k := ⟨fun hh => hh.2 k (by omega), fun hh => ⟨hp.1, all_succ.2 ⟨hp.2, hh⟩⟩⟩
          rw [e]; unfold goodAt; exact ⟨fun hh => (by cases hh), fun hh => by have := hh.1; omega⟩))
    | (refine ⟨(k + 1, true), by simp only []; omega, ⟨by simp only []; omega, ?_⟩, Wk.cut rfl ⟨⟨rfl, rfl⟩, ⟨rfl, rfl⟩, ⟨rfl, rfl⟩, ⟨by simp only [← wrapS (show k < 9223372036854775807 by omega)]; rfl, rfl⟩, ⟨rfl, rfl⟩, trivial⟩ ⟨⟨rfl, rfl, row1 rfl, nofun⟩, trivial⟩⟩
       show true = true ↔ fore inc starts ∧ ∀ j, j < k + 1 → goodAt starts j
       have hp := hb.1 rfl; have e : (fore inc starts ∧ ∀ j, j < k + 1 → goodAt starts j) ↔ goodAt starts k := ⟨fun hh => hh.2 k (by omega), fun hh => ⟨hp.1, all_succ.2 ⟨hp.2, hh⟩⟩⟩
       rw [e]; unfold goodAt; exact ⟨fun _ => ⟨by omega, fun _ => by omega⟩, fun _ => rfl⟩)
    | (refine ⟨(k + 1, decide (starts.getD k 0 ≥ starts.getD (k - 1) 0)), by simp only []; omega, ⟨by simp only []; omega, ?_⟩, Wk.cut rfl ⟨⟨rfl, rfl⟩, ⟨rfl, rfl⟩, ⟨rfl, rfl⟩, ⟨by simp only [← wrapS (show k < 9223372036854775807 by omega)]; rfl, rfl⟩, ⟨rfl, rfl⟩, trivial⟩ ⟨⟨rfl, rfl, row1 rfl, nofun⟩, trivial⟩⟩
       show decide (starts.getD k 0 ≥ starts.getD (k - 1) 0) = true ↔ fore inc starts ∧ ∀ j, j < k + 1 → goodAt starts j
       have hp := hb.1 rfl; have e : (fore inc starts ∧ ∀ j, j < k + 1 → goodAt starts j) ↔ goodAt starts k := ⟨fun hh => hh.2 k (by omega), fun hh => ⟨hp.1, all_succ.2 ⟨hp.2, hh⟩⟩⟩
       rw [e, decide_eq_true_iff]; unfold goodAt; exact ⟨fun hh => ⟨by omega, fun _ => by omega⟩, fun hh => by have := hh.2 (by omega); omega⟩)
    | skip
  all_goals (refine ret_now _ ?_)
  all_goals first
    | (exact (hb.1 rfl).1.elim)
    | (exfalso; have hp := hb.1 rfl; have hp1 := hp.1; unfold fore at hp1; clear hb hw hp; omega)
    | (rw [errF_no fun hg => by
        have h1 := hg.h_st; have h2 := hg.h_inc0; have h3 := hg.h_inc1; have h4 := hg.h_len; have h5 := hg.h_emp; have h6 := hg.h_pend; have h7 := hg.h_none; have h8 := hg.h_pid; have h9 := hg.h_nonce; have h10 := hg.h_due; have h11 := hg.h_until_
        have hbb := hb.2 ⟨⟨⟨h2, h3⟩, h4, h5⟩, fun j hj => hg.h_srt j (by omega)⟩; first | (cases hbb; done) | (clear hb hw hg; omega)])
    | (have hp := hb.1 rfl; have hp1 := hp.1; unfold fore at hp1
       rw [errF_yes ⟨by omega, by omega, by omega, by omega, by omega, fun j hj => hp.2 j (by omega), by omega, by omega, by omega, by omega, by omega, by omega⟩])

set_option maxHeartbeats 2000000 in
theorem taskCheck_5 (inc pid nonce due until_ code : Int) (starts : List Int) : Pure Tryz.prog 80 [tav 5 inc pid nonce due until_ code starts] (I (errF 5 inc pid nonce due until_ code starts)) := by
  refine Pure.ev Tryz.f80 mx Tryz.func80 (by kernel_rfl) rfl rfl rfl ?_ <;> (refine goS ?_ <;> repeat (intro _ <;> refine goS ?_))
  repeat' (first
    | (refine onB_mk (fun h => ?_) (fun h => ?_) <;> (try rw [h]) <;> (try simp [-List.getD_eq_getElem?_getD, wl, List.getD_cons_zero, List.getD_cons_succ] at h) <;> (refine goS ?_ <;> repeat (intro _ <;> refine goS ?_)))
    | (refine Pure.call (in_p _ _ _) ?_ <;> (refine goS ?_ <;> repeat (intro _ <;> refine goS ?_))))
  all_goals (refine loop_st (S := Nat × Bool) (fun s => [(1, .hptr 0 8 0 0), (32, slI starts), (33, I starts.length), (34, I s.1), (3, B s.2)]) (fun _ => ⟨1, [(0, some ⟨8, [[.val (.int .u8 5), I inc, I pid, I nonce, I due, I until_, I code, slI starts]], none⟩)]⟩) (fun s => s.1 ≤ starts.length ∧ (s.2 = true ↔ fore inc starts ∧ ∀ j, j < s.1 → goodAt starts j)) (fun s => starts.length - s.1) (0, _) (Wk.cut rfl ⟨⟨rfl, rfl⟩, ⟨rfl, rfl⟩, ⟨rfl, rfl⟩, ⟨rfl, rfl⟩, ⟨rfl, rfl⟩, trivial⟩ ⟨⟨rfl, rfl, row1 rfl, nofun⟩, trivial⟩) ⟨Nat.zero_le _, ?_⟩ ?_)
  all_goals first
    | (simp only [Nat.not_lt_zero, false_implies, implies_true, and_true, fore]
       simp only [beq_iff_eq, bb, Bool.false_eq_true, false_iff]
       omega)
    | (exact ⟨fun hh => (by cases hh), fun hh => hh.1.elim⟩)
    | skip
  all_goals (rintro ⟨k, b⟩ ⟨hk, hb⟩)
  all_goals (have hl9 : starts.length ≤ 9223372036854775807 := by assumption)
  all_goals (replace hk : k ≤ starts.length := hk)
  all_goals (replace hb : b = true ↔ fore inc starts ∧ ∀ j, j < k → goodAt starts j := hb)
  all_goals (dsimp only)
  all_goals (have hw : ∀ m : Nat, (m : Int).toNat = m := fun m => Int.toNat_natCast m)
  all_goals cases b
  all_goals (refine goS ?_ <;> repeat (intro _ <;> refine goS ?_))
  all_goals repeat' (first
    | (refine onB_mk (fun h => ?_) (fun h => ?_) <;> (try rw [h]) <;> (try simp [-List.getD_eq_getElem?_getD, wl, List.getD_cons_zero, List.getD_cons_succ] at h) <;> (refine goS ?_ <;> repeat (intro _ <;> refine goS ?_)))
    | (refine Pure.call (in_p _ _ _) ?_ <;> (refine goS ?_ <;> repeat (intro _ <;> refine goS ?_)))
    | (refine Pure.call (only_p _ _ _) ?_ <;> (refine goS ?_ <;> repeat (intro _ <;> refine goS ?_)))
    | (rw [wrapP (by omega) (by omega)] <;> (refine goS ?_ <;> repeat (intro _ <;> refine goS ?_))))
  all_goals first
    | (refine ⟨(k + 1, false), by simp only []; omega, ⟨by simp only []; omega, ?_⟩, Wk.cut rfl ⟨⟨rfl, rfl⟩, ⟨rfl, rfl⟩, ⟨rfl, rfl⟩, ⟨by simp only [← wrapS (show k < 9223372036854775807 by omega)]; rfl, rfl⟩, ⟨rfl, rfl⟩, trivial⟩ ⟨⟨rfl, rfl, row1 rfl, nofun⟩, trivial⟩⟩
       show false = true ↔ fore inc starts ∧ ∀ j, j < k + 1 → goodAt starts j
       first
       | (have hn : ¬ (fore inc starts ∧ ∀ j, j < k → goodAt starts j) := fun hh => absurd (hb.2 hh) (by decide)
          exact ⟨fun hh => (by cases hh), fun hh => absurd ⟨hh.1, (all_succ.1 hh.2).1⟩ hn⟩)
       | (have hp := hb.1 rfl; have e : (fore inc starts ∧ ∀ j, j < k + 1 → goodAt starts j) ↔ goodAt starts k := ⟨fun hh => hh.2 k (by omega), fun hh => ⟨hp.1, all_succ.2 ⟨hp.2, hh⟩⟩⟩
          rw [e]; unfold goodAt; exact ⟨fun hh => (by cases hh), fun hh => by have := hh.1; omega⟩))
    | (refine ⟨(k + 1, true), by simp only []; omega, ⟨by simp only []; omega, ?_⟩, Wk.cut rfl ⟨⟨rfl, rfl⟩, ⟨rfl, rfl⟩, ⟨rfl, rfl⟩, ⟨by simp only [← wrapS (show k < 9223372036854775807 by omega)]; rfl, rfl⟩, ⟨rfl, rfl⟩, trivial⟩ ⟨⟨rfl, rfl, row1 rfl, nofun⟩, trivial⟩⟩
       show true = true ↔ fore inc starts ∧ ∀ j, j < k + 1 → goodAt starts j
       have hp := hb.1 rfl; have e : (fore inc starts ∧ ∀ j, j < k + 1 → goodAt starts j) ↔ goodAt starts k := ⟨fun hh => hh.2 k (by omega), fun hh => ⟨hp.1, all_succ.2 ⟨hp.2, hh⟩⟩⟩
       rw [e]; unfold goodAt; exact ⟨fun _ => ⟨by omega, fun _ => by omega⟩, fun _ => rfl⟩)
    | (refine ⟨(k + 1, decide (starts.getD k 0 ≥ starts.getD (k - 1) 0)), by simp only []; omega, ⟨by simp only []; omega, ?_⟩, Wk.cut rfl ⟨⟨rfl, rfl⟩, ⟨rfl, rfl⟩, ⟨rfl, rfl⟩, ⟨by simp only [← wrapS (show k < 9223372036854775807 by omega)]; rfl, rfl⟩, ⟨rfl, rfl⟩, trivial⟩ ⟨⟨rfl, rfl, row1 rfl, nofun⟩, trivial⟩⟩
       show decide (starts.getD k 0 ≥ starts.getD (k - 1) 0) = true ↔ fore inc starts ∧ ∀ j, j < k + 1 → goodAt starts j
       have hp := hb.1 rfl; have e : (fore inc starts ∧ ∀ j, j < k + 1 → goodAt starts j) ↔ goodAt starts k := ⟨fun hh => hh.2 k (by omega), fun hh => ⟨hp.1, all_succ.2 ⟨hp.2, hh⟩⟩⟩
       rw [e, decide_eq_true_iff]; unfold goodAt; exact ⟨fun hh => ⟨by omega, fun _ => by omega⟩, fun hh => by have := hh.2 (by omega); omega⟩)
    | skip
  all_goals (refine ret_now _ ?_)
  all_goals first
    | (exact (hb.1 rfl).1.elim)
    | (exfalso; have hp := hb.1 rfl; have hp1 := hp.1; unfold fore at hp1; clear hb hw hp; omega)
    | (rw [errF_no fun hg => by
        have h1 := hg.h_st; have h2 := hg.h_inc0; have h3 := hg.h_inc1; have h4 := hg.h_len; have h5 := hg.h_emp; have h6 := hg.h_pend; have h7 := hg.h_none; have h8 := hg.h_pid; have h9 := hg.h_nonce; have h10 := hg.h_due; have h11 := hg.h_until_
        have hbb := hb.2 ⟨⟨⟨h2, h3⟩, h4, h5⟩, fun j hj => hg.h_srt j (by omega)⟩; first | (cases hbb; done) | (clear hb hw hg; omega)])
    | (have hp := hb.1 rfl; have hp1 := hp.1; unfold fore at hp1
       rw [errF_yes ⟨by omega, by omega, by omega, by omega, by omega, fun j hj => hp.2 j (by omega), by omega, by omega, by omega, by omega, by omega, by omega⟩])

set_option maxHeartbeats 2000000 in
theorem taskCheck_6 (inc pid nonce due until_ code : Int) (starts : List Int) : Pure Tryz.prog 80 [tav 6 inc pid nonce due until_ code starts] (I (errF 6 inc pid nonce due until_ code starts)) := by
  refine Pure.ev Tryz.f80 mx Tryz.func80 (by kernel_rfl) rfl rfl rfl ?_ <;> (refine goS ?_ <;> repeat (intro _ <;> refine goS ?_))
  repeat' (first
    | (refine onB_mk (fun h => ?_) (fun h => ?_) <;> (try rw [h]) <;> (try simp [-List.getD_eq_getElem?_getD, wl, List.getD_cons_zero, List.getD_cons_succ] at h) <;> (refine goS ?_ <;> repeat (intro _ <;> refine goS ?_)))
    | (refine Pure.call (in_p _ _ _) ?_ <;> (refine goS ?_ <;> repeat (intro _ <;> refine goS ?_))))
  all_goals (refine loop_st (S := Nat × Bool) (fun s => [(1, .hptr 0 8 0 0), (32, slI starts), (33, I starts.length), (34, I s.1), (3, B s.2)]) (fun _ => ⟨1, [(0, some ⟨8, [[.val (.int .u8 6), I inc, I pid, I nonce, I due, I until_, I code, slI starts]], none⟩)]⟩) (fun s => s.1 ≤ starts.length ∧ (s.2 = true ↔ fore inc starts ∧ ∀ j, j < s.1 → goodAt starts j)) (fun s => starts.length - s.1) (0, _) (Wk.cut rfl ⟨⟨rfl, rfl⟩, ⟨rfl, rfl⟩, ⟨rfl, rfl⟩, ⟨rfl, rfl⟩, ⟨rfl, rfl⟩, trivial⟩ ⟨⟨rfl, rfl, row1 rfl, nofun⟩, trivial⟩) ⟨Nat.zero_le _, ?_⟩ ?_)
  all_goals first
    | (simp only [Nat.not_lt_zero, false_implies, implies_true, and_true, fore]
       simp only [beq_iff_eq, bb, Bool.false_eq_true, false_iff]
       omega)
    | (exact ⟨fun hh => (by cases hh), fun hh => hh.1.elim⟩)
    | skip
  all_goals (rintro ⟨k, b⟩ ⟨hk, hb⟩)
  all_goals (have hl9 : starts.length ≤ 9223372036854775807 := by assumption)
  all_goals (replace hk : k ≤ starts.length := hk)
  all_goals (replace hb : b = true ↔ fore inc starts ∧ ∀ j, j < k → goodAt starts j := hb)
  all_goals (dsimp only)
  all_goals (have hw : ∀ m : Nat, (m : Int).toNat = m := fun m => Int.toNat_natCast m)
  all_goals cases b
  all_goals (refine goS ?_ <;> repeat (intro _ <;> refine goS ?_))
  all_goals repeat' (first
    | (refine onB_mk (fun h => ?_) (fun h => ?_) <;> (try rw [h]) <;> (try simp [-List.getD_eq_getElem?_getD, wl, List.getD_cons_zero, List.getD_cons_succ] at h) <;> (refine goS ?_ <;> repeat (intro _ <;> refine goS ?_)))
    | (refine Pure.call (in_p _ _ _) ?_ <;> (refine goS ?_ <;> repeat (intro _ <;> refine goS ?_)))
    | (refine Pure.call (only_p _ _ _) ?_ <;> (refine goS ?_ <;> repeat (intro _ <;> refine goS ?_)))
    | (rw [wrapP (by omega) (by omega)] <;> (refine goS ?_ <;> repeat (intro _ <;> refine goS ?_))))
  all_goals first
    | (refine ⟨(k + 1, false), by simp only []; omega, ⟨by simp only []; omega, ?_⟩, Wk.cut rfl ⟨⟨rfl, rfl⟩, ⟨rfl, rfl⟩, ⟨rfl, rfl⟩, ⟨by simp only [← wrapS (show k < 9223372036854775807 by omega)]; rfl, rfl⟩, ⟨rfl, rfl⟩, trivial⟩ ⟨⟨rfl, rfl, row1 rfl, nofun⟩, trivial⟩⟩
       show false = true ↔ fore inc starts ∧ ∀ j, j < k + 1 → goodAt starts j
       first
       | (have hn : ¬ (fore inc starts ∧ ∀ j, j < k → goodAt starts j) := fun hh => absurd (hb.2 hh) (by decide)
          exact ⟨fun hh => (by cases hh), fun hh => absurd ⟨hh.1, (all_succ.1 hh.2).1⟩ hn⟩)
       | (have hp := hb.1 rfl; have e : (fore inc starts ∧ ∀ j, j < k + 1 → goodAt starts j) ↔ goodAt starts k := ⟨fun hh => hh.2 k (by omega), fun hh => ⟨hp.1, all_succ.2 ⟨hp.2, hh⟩⟩⟩
          rw [e]; unfold goodAt; exact ⟨fun hh => (by cases hh), fun hh => by have := hh.1; omega⟩))
    | (refine ⟨(k + 1, true), by simp only []; omega, ⟨by simp only []; omega, ?_⟩, Wk.cut rfl ⟨⟨rfl, rfl⟩, ⟨rfl, rfl⟩, ⟨rfl, rfl⟩, ⟨by simp only [← wrapS (show k < 9223372036854775807 by omega)]; rfl, rfl⟩, ⟨rfl, rfl⟩, trivial⟩ ⟨⟨rfl, rfl, row1 rfl, nofun⟩, trivial⟩⟩
       show true = true ↔ fore inc starts ∧ ∀ j, j < k + 1 → goodAt starts j
       have hp := hb.1 rfl; have e : (fore inc starts ∧ ∀ j, j < k + 1 → goodAt starts j) ↔ goodAt starts k := ⟨fun hh => hh.2 k (by omega), fun hh => ⟨hp.1, all_succ.2 ⟨hp.2, hh⟩⟩⟩
       rw [e]; unfold goodAt; exact ⟨fun _ => ⟨by omega, fun _ => by omega⟩, fun _ => rfl⟩)
    | (refine ⟨(k + 1, decide (starts.getD k 0 ≥ starts.getD (k - 1) 0)), by simp only []; omega, ⟨by simp only []; omega, ?_⟩, Wk.cut rfl ⟨⟨rfl, rfl⟩, ⟨rfl, rfl⟩, ⟨rfl, rfl⟩, ⟨by simp only [← wrapS (show k < 9223372036854775807 by omega)]; rfl, rfl⟩, ⟨rfl, rfl⟩, trivial⟩ ⟨⟨rfl, rfl, row1 rfl, nofun⟩, trivial⟩⟩
       show decide (starts.getD k 0 ≥ starts.getD (k - 1) 0) = true ↔ fore inc starts ∧ ∀ j, j < k + 1 → goodAt starts j
       have hp := hb.1 rfl; have e : (fore inc starts ∧ ∀ j, j < k + 1 → goodAt starts j) ↔ goodAt starts k := ⟨fun hh => hh.2 k (by omega), fun hh => ⟨hp.1, all_succ.2 ⟨hp.2, hh⟩⟩⟩
       rw [e, decide_eq_true_iff]; unfold goodAt; exact ⟨fun hh => ⟨by omega, fun _ => by omega⟩, fun hh => by have := hh.2 (by omega); omega⟩)
    | skip
  all_goals (refine ret_now _ ?_)
  all_goals first
    | (exact (hb.1 rfl).1.elim)
    | (exfalso; have hp := hb.1 rfl; have hp1 := hp.1; unfold fore at hp1; clear hb hw hp; omega)
    | (rw [errF_no fun hg => by
        have h1 := hg.h_st; have h2 := hg.h_inc0; have h3 := hg.h_inc1; have h4 := hg.h_len; have h5 := hg.h_emp; have h6 := hg.h_pend; have h7 := hg.h_none; have h8 := hg.h_pid; have h9 := hg.h_nonce; have h10 := hg.h_due; have h11 := hg.h_until_
        have hbb := hb.2 ⟨⟨⟨h2, h3⟩, h4, h5⟩, fun j hj => hg.h_srt j (by omega)⟩; first | (cases hbb; done) | (clear hb hw hg; omega)])
    | (have hp := hb.1 rfl; have hp1 := hp.1; unfold fore at hp1
       rw [errF_yes ⟨by omega, by omega, by omega, by omega, by omega, fun j hj => hp.2 j (by omega), by omega, by omega, by omega, by omega, by omega, by omega⟩])

set_option maxHeartbeats 2000000 in
theorem taskCheck_7 (inc pid nonce due until_ code : Int) (starts : List Int) : Pure Tryz.prog 80 [tav 7 inc pid nonce due until_ code starts] (I (errF 7 inc pid nonce due until_ code starts)) := by
  refine Pure.ev Tryz.f80 mx Tryz.func80 (by kernel_rfl) rfl rfl rfl ?_ <;> (refine goS ?_ <;> repeat (intro _ <;> refine goS ?_))
  repeat' (first
    | (refine onB_mk (fun h => ?_) (fun h => ?_) <;> (try rw [h]) <;> (try simp [-List.getD_eq_getElem?_getD, wl, List.getD_cons_zero, List.getD_cons_succ] at h) <;> (refine goS ?_ <;> repeat (intro _ <;> refine goS ?_)))
    | (refine Pure.call (in_p _ _ _) ?_ <;> (refine goS ?_ <;> repeat (intro _ <;> refine goS ?_))))
  all_goals (refine loop_st (S := Nat × Bool) (fun s => [(1, .hptr 0 8 0 0), (32, slI starts), (33, I starts.length), (34, I s.1), (3, B s.2)]) (fun _ => ⟨1, [(0, some ⟨8, [[.val (.int .u8 7), I inc, I pid, I nonce, I due, I until_, I code, slI starts]], none⟩)]⟩) (fun s => s.1 ≤ starts.length ∧ (s.2 = true ↔ fore inc starts ∧ ∀ j, j < s.1 → goodAt starts j)) (fun s => starts.length - s.1) (0, _) (Wk.cut rfl ⟨⟨rfl, rfl⟩, ⟨rfl, rfl⟩, ⟨rfl, rfl⟩, ⟨rfl, rfl⟩, ⟨rfl, rfl⟩, trivial⟩ ⟨⟨rfl, rfl, row1 rfl, nofun⟩, trivial⟩) ⟨Nat.zero_le _, ?_⟩ ?_)
  all_goals first
    | (simp only [Nat.not_lt_zero, false_implies, implies_true, and_true, fore]
       simp only [beq_iff_eq, bb, Bool.false_eq_true, false_iff]
       omega)
    | (exact ⟨fun hh => (by cases hh), fun hh => hh.1.elim⟩)
    | skip
  all_goals (rintro ⟨k, b⟩ ⟨hk, hb⟩)
  all_goals (have hl9 : starts.length ≤ 9223372036854775807 := by assumption)
  all_goals (replace hk : k ≤ starts.length := hk)
  all_goals (replace hb : b = true ↔ fore inc starts ∧ ∀ j, j < k → goodAt starts j := hb)
  all_goals (dsimp only)
  all_goals (have hw : ∀ m : Nat, (m : Int).toNat = m := fun m => Int.toNat_natCast m)
  all_goals cases b
  all_goals (refine goS ?_ <;> repeat (intro _ <;> refine goS ?_))
  all_goals repeat' (first
    | (refine onB_mk (fun h => ?_) (fun h => ?_) <;> (try rw [h]) <;> (try simp [-List.getD_eq_getElem?_getD, wl, List.getD_cons_zero, List.getD_cons_succ] at h) <;> (refine goS ?_ <;> repeat (intro _ <;> refine goS ?_)))
    | (refine Pure.call (in_p _ _ _) ?_ <;> (refine goS ?_ <;> repeat (intro _ <;> refine goS ?_)))
    | (refine Pure.call (only_p _ _ _) ?_ <;> (refine goS ?_ <;> repeat (intro _ <;> refine goS ?_)))
    | (rw [wrapP (by omega) (by omega)] <;> (refine goS ?_ <;> repeat (intro _ <;> refine goS ?_))))
  all_goals first
    | (refine ⟨(k + 1, false), by simp only []; omega, ⟨by simp only []; omega, ?_⟩, Wk.cut rfl ⟨⟨rfl, rfl⟩, ⟨rfl, rfl⟩, ⟨rfl, rfl⟩, ⟨by simp only [← wrapS (show k < 9223372036854775807 by omega)]; rfl, rfl⟩, ⟨rfl, rfl⟩, trivial⟩ ⟨⟨rfl, rfl, row1 rfl, nofun⟩, trivial⟩⟩
       show false = true ↔ fore inc starts ∧ ∀ j, j < k + 1 → goodAt starts j
       first
       | (have hn : ¬ (fore inc starts ∧ ∀ j, j < k → goodAt starts j) := fun hh => absurd (hb.2 hh) (by decide)
          exact ⟨fun hh => (by cases hh), fun hh => absurd ⟨hh.1, (all_succ.1 hh.2).1⟩ hn⟩)
       | (have hp := hb.1 rfl; have e : (fore inc starts ∧ ∀ j, j < k + 1 → goodAt starts j) ↔ goodAt starts k := ⟨fun hh => hh.2 k (by omega), fun hh => ⟨hp.1, all_succ.2 ⟨hp.2, hh⟩⟩⟩
          rw [e]; unfold goodAt; exact ⟨fun hh => (by cases hh), fun hh => by have := hh.1; omega⟩))
    | (refine ⟨(k + 1, true), by simp only []; omega, ⟨by simp only []; omega, ?_⟩, Wk.cut rfl ⟨⟨rfl, rfl⟩, ⟨rfl, rfl⟩, ⟨rfl, rfl⟩, ⟨by simp only [← wrapS (show k < 9223372036854775807 by omega)]; rfl, rfl⟩, ⟨rfl, rfl⟩, trivial⟩ ⟨⟨rfl, rfl, row1 rfl, nofun⟩, trivial⟩⟩
       show true = true ↔ fore inc starts ∧ ∀ j, j < k + 1 → goodAt starts j
       have hp := hb.1 rfl; have e : (fore inc starts ∧ ∀ j, j < k + 1 → goodAt starts j) ↔ goodAt starts k := ⟨fun hh => hh.2 k (by omega), fun hh => ⟨hp.1, all_succ.2 ⟨hp.2, hh⟩⟩⟩
       rw [e]; unfold goodAt; exact ⟨fun _ => ⟨by omega, fun _ => by omega⟩, fun _ => rfl⟩)
    | (refine ⟨(k + 1, decide (starts.getD k 0 ≥ starts.getD (k - 1) 0)), by simp only []; omega, ⟨by simp only []; omega, ?_⟩, Wk.cut rfl ⟨⟨rfl, rfl⟩, ⟨rfl, rfl⟩, ⟨rfl, rfl⟩, ⟨by simp only [← wrapS (show k < 9223372036854775807 by omega)]; rfl, rfl⟩, ⟨rfl, rfl⟩, trivial⟩ ⟨⟨rfl, rfl, row1 rfl, nofun⟩, trivial⟩⟩
       show decide (starts.getD k 0 ≥ starts.getD (k - 1) 0) = true ↔ fore inc starts ∧ ∀ j, j < k + 1 → goodAt starts j
       have hp := hb.1 rfl; have e : (fore inc starts ∧ ∀ j, j < k + 1 → goodAt starts j) ↔ goodAt starts k := ⟨fun hh => hh.2 k (by omega), fun hh => ⟨hp.1, all_succ.2 ⟨hp.2, hh⟩⟩⟩
       rw [e, decide_eq_true_iff]; unfold goodAt; exact ⟨fun hh => ⟨by omega, fun _ => by omega⟩, fun hh => by have := hh.2 (by omega); omega⟩)
    | skip
  all_goals (refine ret_now _ ?_)
  all_goals first
    | (exact (hb.1 rfl).1.elim)
    | (exfalso; have hp := hb.1 rfl; have hp1 := hp.1; unfold fore at hp1; clear hb hw hp; omega)
    | (rw [errF_no fun hg => by
        have h1 := hg.h_st; have h2 := hg.h_inc0; have h3 := hg.h_inc1; have h4 := hg.h_len; have h5 := hg.h_emp; have h6 := hg.h_pend; have h7 := hg.h_none; have h8 := hg.h_pid; have h9 := hg.h_nonce; have h10 := hg.h_due; have h11 := hg.h_until_
        have hbb := hb.2 ⟨⟨⟨h2, h3⟩, h4, h5⟩, fun j hj => hg.h_srt j (by omega)⟩; first | (cases hbb; done) | (clear hb hw hg; omega)])
    | (have hp := hb.1 rfl; have hp1 := hp.1; unfold fore at hp1
       rw [errF_yes ⟨by omega, by omega, by omega, by omega, by omega, fun j hj => hp.2 j (by omega), by omega, by omega, by omega, by omega, by omega, by omega⟩])

set_option maxHeartbeats 2000000 in
theorem taskCheck_hi (st : Int) (hst : 7 < st) (inc pid nonce due until_ code : Int) (starts : List Int) : Pure Tryz.prog 80 [tav st inc pid nonce due until_ code starts] (I (errF st inc pid nonce due until_ code starts)) := by
  refine Pure.ev Tryz.f80 mx Tryz.func80 (by kernel_rfl) rfl rfl rfl ?_ <;> (refine goS ?_ <;> repeat (intro _ <;> refine goS ?_))
  repeat' (first
    | (refine onB_mk (fun h => absurd h (by simp; omega)) (fun h => ?_) <;> (try rw [h]) <;> (refine goS ?_ <;> repeat (intro _ <;> refine goS ?_)))
    | (refine onB_mk (fun h => ?_) (fun h => ?_) <;> (try rw [h]) <;> (try simp [-List.getD_eq_getElem?_getD, wl, List.getD_cons_zero, List.getD_cons_succ] at h) <;> (refine goS ?_ <;> repeat (intro _ <;> refine goS ?_)))
    | (refine Pure.call (in_p _ _ _) ?_ <;> (refine goS ?_ <;> repeat (intro _ <;> refine goS ?_))))
  all_goals (refine loop_st (S := Nat × Bool) (fun s => [(1, .hptr 0 8 0 0), (32, slI starts), (33, I starts.length), (34, I s.1), (3, B s.2)]) (fun _ => ⟨1, [(0, some ⟨8, [[.val (.int .u8 st), I inc, I pid, I nonce, I due, I until_, I code, slI starts]], none⟩)]⟩) (fun s => s.1 ≤ starts.length ∧ (s.2 = true ↔ False ∧ ∀ j, j < s.1 → goodAt starts j)) (fun s => starts.length - s.1) (0, _) (Wk.cut rfl ⟨⟨rfl, rfl⟩, ⟨rfl, rfl⟩, ⟨rfl, rfl⟩, ⟨rfl, rfl⟩, ⟨rfl, rfl⟩, trivial⟩ ⟨⟨rfl, rfl, row1 rfl, nofun⟩, trivial⟩) ⟨Nat.zero_le _, ?_⟩ ?_)
  all_goals first
    | (simp only [Nat.not_lt_zero, false_implies, implies_true, and_true, fore]
       simp only [beq_iff_eq, bb, Bool.false_eq_true, false_iff]
       omega)
    | (exact ⟨fun hh => (by cases hh), fun hh => hh.1.elim⟩)
    | skip
  all_goals (rintro ⟨k, b⟩ ⟨hk, hb⟩)
  all_goals (have hl9 : starts.length ≤ 9223372036854775807 := by assumption)
  all_goals (replace hk : k ≤ starts.length := hk)
  all_goals (replace hb : b = true ↔ False ∧ ∀ j, j < k → goodAt starts j := hb)
  all_goals (dsimp only)
  all_goals (have hw : ∀ m : Nat, (m : Int).toNat = m := fun m => Int.toNat_natCast m)
  all_goals cases b
  all_goals (refine goS ?_ <;> repeat (intro _ <;> refine goS ?_))
  all_goals repeat' (first
    | (refine onB_mk (fun h => absurd h (by simp; omega)) (fun h => ?_) <;> (try rw [h]) <;> (refine goS ?_ <;> repeat (intro _ <;> refine goS ?_)))
    | (refine onB_mk (fun h => ?_) (fun h => ?_) <;> (try rw [h]) <;> (try simp [-List.getD_eq_getElem?_getD, wl, List.getD_cons_zero, List.getD_cons_succ] at h) <;> (refine goS ?_ <;> repeat (intro _ <;> refine goS ?_)))
    | (refine Pure.call (in_p _ _ _) ?_ <;> (refine goS ?_ <;> repeat (intro _ <;> refine goS ?_)))
    | (refine Pure.call (only_p _ _ _) ?_ <;> (refine goS ?_ <;> repeat (intro _ <;> refine goS ?_)))
    | (rw [wrapP (by omega) (by omega)] <;> (refine goS ?_ <;> repeat (intro _ <;> refine goS ?_))))
  all_goals first
    | (refine ⟨(k + 1, false), by simp only []; omega, ⟨by simp only []; omega, ?_⟩, Wk.cut rfl ⟨⟨rfl, rfl⟩, ⟨rfl, rfl⟩, ⟨rfl, rfl⟩, ⟨by simp only [← wrapS (show k < 9223372036854775807 by omega)]; rfl, rfl⟩, ⟨rfl, rfl⟩, trivial⟩ ⟨⟨rfl, rfl, row1 rfl, nofun⟩, trivial⟩⟩
       show false = true ↔ False ∧ ∀ j, j < k + 1 → goodAt starts j
       first
       | (have hn : ¬ (False ∧ ∀ j, j < k → goodAt starts j) := fun hh => absurd (hb.2 hh) (by decide)
          exact ⟨fun hh => (by cases hh), fun hh => absurd ⟨hh.1, (all_succ.1 hh.2).1⟩ hn⟩)
       | (have hp := hb.1 rfl; have e : (False ∧ ∀ j, j < k + 1 → goodAt starts j) ↔ goodAt starts k := ⟨fun hh => hh.2 k (by omega), fun hh => ⟨hp.1, all_succ.2 ⟨hp.2, hh⟩⟩⟩
          rw [e]; unfold goodAt; exact ⟨fun hh => (by cases hh), fun hh => by have := hh.1; omega⟩))
    | (refine ⟨(k + 1, true), by simp only []; omega, ⟨by simp only []; omega, ?_⟩, Wk.cut rfl ⟨⟨rfl, rfl⟩, ⟨rfl, rfl⟩, ⟨rfl, rfl⟩, ⟨by simp only [← wrapS (show k < 9223372036854775807 by omega)]; rfl, rfl⟩, ⟨rfl, rfl⟩, trivial⟩ ⟨⟨rfl, rfl, row1 rfl, nofun⟩, trivial⟩⟩
       show true = true ↔ False ∧ ∀ j, j < k + 1 → goodAt starts j
       have hp := hb.1 rfl; have e : (False ∧ ∀ j, j < k + 1 → goodAt starts j) ↔ goodAt starts k := ⟨fun hh => hh.2 k (by omega), fun hh => ⟨hp.1, all_succ.2 ⟨hp.2, hh⟩⟩⟩
       rw [e]; unfold goodAt; exact ⟨fun _ => ⟨by omega, fun _ => by omega⟩, fun _ => rfl⟩)
    | (refine ⟨(k + 1, decide (starts.getD k 0 ≥ starts.getD (k - 1) 0)), by simp only []; omega, ⟨by simp only []; omega, ?_⟩, Wk.cut rfl ⟨⟨rfl, rfl⟩, ⟨rfl, rfl⟩, ⟨rfl, rfl⟩, ⟨by simp only [← wrapS (show k < 9223372036854775807 by omega)]; rfl, rfl⟩, ⟨rfl, rfl⟩, trivial⟩ ⟨⟨rfl, rfl, row1 rfl, nofun⟩, trivial⟩⟩
       show decide (starts.getD k 0 ≥ starts.getD (k - 1) 0) = true ↔ False ∧ ∀ j, j < k + 1 → goodAt starts j
       have hp := hb.1 rfl; have e : (False ∧ ∀ j, j < k + 1 → goodAt starts j) ↔ goodAt starts k := ⟨fun hh => hh.2 k (by omega), fun hh => ⟨hp.1, all_succ.2 ⟨hp.2, hh⟩⟩⟩
       rw [e, decide_eq_true_iff]; unfold goodAt; exact ⟨fun hh => ⟨by omega, fun _ => by omega⟩, fun hh => by have := hh.2 (by omega); omega⟩)
    | skip
  all_goals (refine ret_now _ ?_)
  all_goals first
    | (exact (hb.1 rfl).1.elim)
    | (exfalso; have hp := hb.1 rfl; have hp1 := hp.1; unfold fore at hp1; clear hb hw hp; omega)
    | (rw [errF_no fun hg => by
        have h1 := hg.h_st; have h2 := hg.h_inc0; have h3 := hg.h_inc1; have h4 := hg.h_len; have h5 := hg.h_emp; have h6 := hg.h_pend; have h7 := hg.h_none; have h8 := hg.h_pid; have h9 := hg.h_nonce; have h10 := hg.h_due; have h11 := hg.h_until_
        omega])
    | (have hp := hb.1 rfl; have hp1 := hp.1; unfold fore at hp1
       rw [errF_yes ⟨by omega, by omega, by omega, by omega, by omega, fun j hj => hp.2 j (by omega), by omega, by omega, by omega, by omega, by omega, by omega⟩])

theorem taskCheck_p (t : Task) (h : 0 ≤ t.state) : Pure Tryz.prog 80 [t.av] (I (errT t)) := by
  obtain ⟨st, inc, pid, nonce, due, until_, code, starts⟩ := t
  rcases states h with h | h | h | h | h | h | h | h | h
  · obtain rfl : st = 0 := h
    exact taskCheck_0 _ _ _ _ _ _ _
  · obtain rfl : st = 1 := h
    exact taskCheck_1 _ _ _ _ _ _ _
  · obtain rfl : st = 2 := h
    exact taskCheck_2 _ _ _ _ _ _ _
  · obtain rfl : st = 3 := h
    exact taskCheck_3 _ _ _ _ _ _ _
  · obtain rfl : st = 4 := h
    exact taskCheck_4 _ _ _ _ _ _ _
  · obtain rfl : st = 5 := h
    exact taskCheck_5 _ _ _ _ _ _ _
  · obtain rfl : st = 6 := h
    exact taskCheck_6 _ _ _ _ _ _ _
  · obtain rfl : st = 7 := h
    exact taskCheck_7 _ _ _ _ _ _ _
  · exact taskCheck_hi _ h _ _ _ _ _ _ _
end Go.Proofs.YtdblhmpcilihnaaGreat
