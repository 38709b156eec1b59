/- The test of a task: the reference's. Printed by gen_check.py. -/
import Derived.Test.YtdblhmpcilihnaaGreatEE
namespace Go.Proofs.YtdblhmpcilihnaaGreat
open Go.RowKit E
set_option maxRecDepth 100000
set_option linter.unusedVariables false
set_option linter.unusedSimpArgs false
structure goodF (st inc pid nonce due until_ code : Int) (starts : List Int) : Prop where
  h_st : st ≤ 7
  h_inc0 : 0 ≤ inc
  h_inc1 : inc ≤ 1099511627776
  h_len : starts.length ≤ 8
  h_emp : starts.length = 0 ↔ inc = 0
  h_srt : ∀ j, j < starts.length → goodAt starts j
  h_pend : st = 0 → inc = 0 ∧ code = 0
  h_none : inc = 0 → st = 0 ∨ st = 6
  h_pid : pid = 0 ∨ (st = 2 ∨ st = 4 ∨ st = 5) ∧ 0 ≤ pid ∧ pid ≤ 1099511627776
  h_nonce : nonce = 0 ∨ (st = 2 ∨ st = 4 ∨ st = 5) ∧ 0 ≤ nonce ∧ nonce ≤ 1099511627776
  h_due : due = 0 ∨ st = 3 ∧ 0 ≤ due ∧ due ≤ 2199023255552
  h_until_ : until_ = 0 ∨ st = 4 ∧ 0 ≤ until_ ∧ until_ ≤ 2199023255552
theorem bb {a b : Int} : ((a == 0) = (b == 0)) ↔ (a = 0 ↔ b = 0) := by
  by_cases h : a = 0 <;> by_cases h2 : b = 0 <;> simp [h, h2, beq_eq_false_iff_ne.2]
open Classical in
noncomputable def errF (st inc pid nonce due until_ code : Int) (starts : List Int) : Int := if goodF st inc pid nonce due until_ code starts then 0 else 2
theorem errF_yes {st inc pid nonce due until_ code : Int} {starts : List Int} (h : goodF st inc pid nonce due until_ code starts) : errF st inc pid nonce due until_ code starts = 0 := if_pos h
theorem errF_no {st inc pid nonce due until_ code : Int} {starts : List Int} (h : ¬ goodF st inc pid nonce due until_ code starts) : errF st inc pid nonce due until_ code starts = 2 := if_neg h
noncomputable def errT (t : Task) : Int := errF t.state t.inc t.pid t.nonce t.due t.until_ t.code t.starts
theorem states {s : Int} (h : 0 ≤ s) : s = 0 ∨ s = 1 ∨ s = 2 ∨ s = 3 ∨ s = 4 ∨ s = 5 ∨ s = 6 ∨ s = 7 ∨ 7 < s := by omega
set_option maxHeartbeats 2000000 in
theorem ref19_0 (inc pid nonce due until_ code : Int) (starts : List Int) : Pure Tryz.prog 139 [Task.av ⟨0, inc, pid, nonce, due, until_, code, starts⟩] (I (errF 0 inc pid nonce due until_ code starts)) := by
  have hsc := scan_zero starts starts.length 0
  generalize hq : scan starts starts.length 0 = q at hsc
  refine Pure.ev Tryz.f139 mx Tryz.func139 (by kernel_rfl) rfl rfl rfl ?_ <;> (refine goS ?_ <;> repeat (intro _ <;> refine goS ?_))
  repeat' (first
    | (refine onB_mk (fun h => ?_) (fun h => ?_) <;> (try rw [h]) <;> (try simp [-List.getD_eq_getElem?_getD, wl, List.getD_cons_zero, List.getD_cons_succ] at h) <;> (refine goS ?_ <;> repeat (intro _ <;> refine goS ?_)))
    | (refine Pure.call (from19_p _ _) ?_ <;> (refine goS ?_ <;> repeat (intro _ <;> refine goS ?_)))
    | (refine Pure.call (hq ▸ starts_p starts) ?_ <;> (refine goS ?_ <;> repeat (intro _ <;> refine goS ?_))))
  all_goals (refine ret_now _ ?_)
  all_goals (try simp only [bb] at *)
  all_goals first
    | (exfalso; clear hsc hq; omega)
    | (rw [errF_no fun hg => by
        have h1 := hg.h_st; have h2 := hg.h_inc0; have h3 := hg.h_inc1; have h4 := hg.h_len; have h5 := hg.h_emp; have h6 := hg.h_pend; have h7 := hg.h_none; have h8 := hg.h_pid; have h9 := hg.h_nonce; have h10 := hg.h_due; have h11 := hg.h_until_
        have h12 : q = 0 := hsc.2 fun j _ hj => hg.h_srt j (by omega)
        clear hsc hq hg
        omega])
    | (rw [errF_yes ⟨by omega, by omega, by omega, by omega, by omega, fun j hj => hsc.1 (by omega) j (Nat.zero_le _) (by omega), by omega, by omega, by omega, by omega, by omega, by omega⟩])
set_option maxHeartbeats 2000000 in
theorem ref19_1 (inc pid nonce due until_ code : Int) (starts : List Int) : Pure Tryz.prog 139 [Task.av ⟨1, inc, pid, nonce, due, until_, code, starts⟩] (I (errF 1 inc pid nonce due until_ code starts)) := by
  have hsc := scan_zero starts starts.length 0
  generalize hq : scan starts starts.length 0 = q at hsc
  refine Pure.ev Tryz.f139 mx Tryz.func139 (by kernel_rfl) rfl rfl rfl ?_ <;> (refine goS ?_ <;> repeat (intro _ <;> refine goS ?_))
  repeat' (first
    | (refine onB_mk (fun h => ?_) (fun h => ?_) <;> (try rw [h]) <;> (try simp [-List.getD_eq_getElem?_getD, wl, List.getD_cons_zero, List.getD_cons_succ] at h) <;> (refine goS ?_ <;> repeat (intro _ <;> refine goS ?_)))
    | (refine Pure.call (from19_p _ _) ?_ <;> (refine goS ?_ <;> repeat (intro _ <;> refine goS ?_)))
    | (refine Pure.call (hq ▸ starts_p starts) ?_ <;> (refine goS ?_ <;> repeat (intro _ <;> refine goS ?_))))
  all_goals (refine ret_now _ ?_)
  all_goals (try simp only [bb] at *)
  all_goals first
    | (exfalso; clear hsc hq; omega)
    | (rw [errF_no fun hg => by
        have h1 := hg.h_st; have h2 := hg.h_inc0; have h3 := hg.h_inc1; have h4 := hg.h_len; have h5 := hg.h_emp; have h6 := hg.h_pend; have h7 := hg.h_none; have h8 := hg.h_pid; have h9 := hg.h_nonce; have h10 := hg.h_due; have h11 := hg.h_until_
        have h12 : q = 0 := hsc.2 fun j _ hj => hg.h_srt j (by omega)
        clear hsc hq hg
        omega])
    | (rw [errF_yes ⟨by omega, by omega, by omega, by omega, by omega, fun j hj => hsc.1 (by omega) j (Nat.zero_le _) (by omega), by omega, by omega, by omega, by omega, by omega, by omega⟩])
set_option maxHeartbeats 2000000 in
theorem ref19_2 (inc pid nonce due until_ code : Int) (starts : List Int) : Pure Tryz.prog 139 [Task.av ⟨2, inc, pid, nonce, due, until_, code, starts⟩] (I (errF 2 inc pid nonce due until_ code starts)) := by
  have hsc := scan_zero starts starts.length 0
  generalize hq : scan starts starts.length 0 = q at hsc
  refine Pure.ev Tryz.f139 mx Tryz.func139 (by kernel_rfl) rfl rfl rfl ?_ <;> (refine goS ?_ <;> repeat (intro _ <;> refine goS ?_))
  repeat' (first
    | (refine onB_mk (fun h => ?_) (fun h => ?_) <;> (try rw [h]) <;> (try simp [-List.getD_eq_getElem?_getD, wl, List.getD_cons_zero, List.getD_cons_succ] at h) <;> (refine goS ?_ <;> repeat (intro _ <;> refine goS ?_)))
    | (refine Pure.call (from19_p _ _) ?_ <;> (refine goS ?_ <;> repeat (intro _ <;> refine goS ?_)))
    | (refine Pure.call (hq ▸ starts_p starts) ?_ <;> (refine goS ?_ <;> repeat (intro _ <;> refine goS ?_))))
  all_goals (refine ret_now _ ?_)
  all_goals (try simp only [bb] at *)
  all_goals first
    | (exfalso; clear hsc hq; omega)
    | (rw [errF_no fun hg => by
        have h1 := hg.h_st; have h2 := hg.h_inc0; have h3 := hg.h_inc1; have h4 := hg.h_len; have h5 := hg.h_emp; have h6 := hg.h_pend; have h7 := hg.h_none; have h8 := hg.h_pid; have h9 := hg.h_nonce; have h10 := hg.h_due; have h11 := hg.h_until_
        have h12 : q = 0 := hsc.2 fun j _ hj => hg.h_srt j (by omega)
        clear hsc hq hg
        omega])
    | (rw [errF_yes ⟨by omega, by omega, by omega, by omega, by omega, fun j hj => hsc.1 (by omega) j (Nat.zero_le _) (by omega), by omega, by omega, by omega, by omega, by omega, by omega⟩])
set_option maxHeartbeats 2000000 in
theorem ref19_3 (inc pid nonce due until_ code : Int) (starts : List Int) : Pure Tryz.prog 139 [Task.av ⟨3, inc, pid, nonce, due, until_, code, starts⟩] (I (errF 3 inc pid nonce due until_ code starts)) := by
  have hsc := scan_zero starts starts.length 0
  generalize hq : scan starts starts.length 0 = q at hsc
  refine Pure.ev Tryz.f139 mx Tryz.func139 (by kernel_rfl) rfl rfl rfl ?_ <;> (refine goS ?_ <;> repeat (intro _ <;> refine goS ?_))
  repeat' (first
    | (refine onB_mk (fun h => ?_) (fun h => ?_) <;> (try rw [h]) <;> (try simp [-List.getD_eq_getElem?_getD, wl, List.getD_cons_zero, List.getD_cons_succ] at h) <;> (refine goS ?_ <;> repeat (intro _ <;> refine goS ?_)))
    | (refine Pure.call (from19_p _ _) ?_ <;> (refine goS ?_ <;> repeat (intro _ <;> refine goS ?_)))
    | (refine Pure.call (hq ▸ starts_p starts) ?_ <;> (refine goS ?_ <;> repeat (intro _ <;> refine goS ?_))))
  all_goals (refine ret_now _ ?_)
  all_goals (try simp only [bb] at *)
  all_goals first
    | (exfalso; clear hsc hq; omega)
    | (rw [errF_no fun hg => by
        have h1 := hg.h_st; have h2 := hg.h_inc0; have h3 := hg.h_inc1; have h4 := hg.h_len; have h5 := hg.h_emp; have h6 := hg.h_pend; have h7 := hg.h_none; have h8 := hg.h_pid; have h9 := hg.h_nonce; have h10 := hg.h_due; have h11 := hg.h_until_
        have h12 : q = 0 := hsc.2 fun j _ hj => hg.h_srt j (by omega)
        clear hsc hq hg
        omega])
    | (rw [errF_yes ⟨by omega, by omega, by omega, by omega, by omega, fun j hj => hsc.1 (by omega) j (Nat.zero_le _) (by omega), by omega, by omega, by omega, by omega, by omega, by omega⟩])
set_option maxHeartbeats 2000000 in
theorem ref19_4 (inc pid nonce due until_ code : Int) (starts : List Int) : Pure Tryz.prog 139 [Task.av ⟨4, inc, pid, nonce, due, until_, code, starts⟩] (I (errF 4 inc pid nonce due until_ code starts)) := by
  have hsc := scan_zero starts starts.length 0
  generalize hq : scan starts starts.length 0 = q at hsc
  refine Pure.ev Tryz.f139 mx Tryz.func139 (by kernel_rfl) rfl rfl rfl ?_ <;> (refine goS ?_ <;> repeat (intro _ <;> refine goS ?_))
  repeat' (first
    | (refine onB_mk (fun h => ?_) (fun h => ?_) <;> (try rw [h]) <;> (try simp [-List.getD_eq_getElem?_getD, wl, List.getD_cons_zero, List.getD_cons_succ] at h) <;> (refine goS ?_ <;> repeat (intro _ <;> refine goS ?_)))
    | (refine Pure.call (from19_p _ _) ?_ <;> (refine goS ?_ <;> repeat (intro _ <;> refine goS ?_)))
    | (refine Pure.call (hq ▸ starts_p starts) ?_ <;> (refine goS ?_ <;> repeat (intro _ <;> refine goS ?_))))
  all_goals (refine ret_now _ ?_)
  all_goals (try simp only [bb] at *)
  all_goals first
    | (exfalso; clear hsc hq; omega)
    | (rw [errF_no fun hg => by
        have h1 := hg.h_st; have h2 := hg.h_inc0; have h3 := hg.h_inc1; have h4 := hg.h_len; have h5 := hg.h_emp; have h6 := hg.h_pend; have h7 := hg.h_none; have h8 := hg.h_pid; have h9 := hg.h_nonce; have h10 := hg.h_due; have h11 := hg.h_until_
        have h12 : q = 0 := hsc.2 fun j _ hj => hg.h_srt j (by omega)
        clear hsc hq hg
        omega])
    | (rw [errF_yes ⟨by omega, by omega, by omega, by omega, by omega, fun j hj => hsc.1 (by omega) j (Nat.zero_le _) (by omega), by omega, by omega, by omega, by omega, by omega, by omega⟩])
set_option maxHeartbeats 2000000 in
theorem ref19_5 (inc pid nonce due until_ code : Int) (starts : List Int) : Pure Tryz.prog 139 [Task.av ⟨5, inc, pid, nonce, due, until_, code, starts⟩] (I (errF 5 inc pid nonce due until_ code starts)) := by
  have hsc := scan_zero starts starts.length 0
  generalize hq : scan starts starts.length 0 = q at hsc
  refine Pure.ev Tryz.f139 mx Tryz.func139 (by kernel_rfl) rfl rfl rfl ?_ <;> (refine goS ?_ <;> repeat (intro _ <;> refine goS ?_))
  repeat' (first
    | (refine onB_mk (fun h => ?_) (fun h => ?_) <;> (try rw [h]) <;> (try simp [-List.getD_eq_getElem?_getD, wl, List.getD_cons_zero, List.getD_cons_succ] at h) <;> (refine goS ?_ <;> repeat (intro _ <;> refine goS ?_)))
    | (refine Pure.call (from19_p _ _) ?_ <;> (refine goS ?_ <;> repeat (intro _ <;> refine goS ?_)))
    | (refine Pure.call (hq ▸ starts_p starts) ?_ <;> (refine goS ?_ <;> repeat (intro _ <;> refine goS ?_))))
  all_goals (refine ret_now _ ?_)
  all_goals (try simp only [bb] at *)
  all_goals first
    | (exfalso; clear hsc hq; omega)
    | (rw [errF_no fun hg => by
        have h1 := hg.h_st; have h2 := hg.h_inc0; have h3 := hg.h_inc1; have h4 := hg.h_len; have h5 := hg.h_emp; have h6 := hg.h_pend; have h7 := hg.h_none; have h8 := hg.h_pid; have h9 := hg.h_nonce; have h10 := hg.h_due; have h11 := hg.h_until_
        have h12 : q = 0 := hsc.2 fun j _ hj => hg.h_srt j (by omega)
        clear hsc hq hg
        omega])
    | (rw [errF_yes ⟨by omega, by omega, by omega, by omega, by omega, fun j hj => hsc.1 (by omega) j (Nat.zero_le _) (by omega), by omega, by omega, by omega, by omega, by omega, by omega⟩])
set_option maxHeartbeats 2000000 in
theorem ref19_6 (inc pid nonce due until_ code : Int) (starts : List Int) : Pure Tryz.prog 139 [Task.av ⟨6, inc, pid, nonce, due, until_, code, starts⟩] (I (errF 6 inc pid nonce due until_ code starts)) := by
  have hsc := scan_zero starts starts.length 0
  generalize hq : scan starts starts.length 0 = q at hsc
  refine Pure.ev Tryz.f139 mx Tryz.func139 (by kernel_rfl) rfl rfl rfl ?_ <;> (refine goS ?_ <;> repeat (intro _ <;> refine goS ?_))
  repeat' (first
    | (refine onB_mk (fun h => ?_) (fun h => ?_) <;> (try rw [h]) <;> (try simp [-List.getD_eq_getElem?_getD, wl, List.getD_cons_zero, List.getD_cons_succ] at h) <;> (refine goS ?_ <;> repeat (intro _ <;> refine goS ?_)))
    | (refine Pure.call (from19_p _ _) ?_ <;> (refine goS ?_ <;> repeat (intro _ <;> refine goS ?_)))
    | (refine Pure.call (hq ▸ starts_p starts) ?_ <;> (refine goS ?_ <;> repeat (intro _ <;> refine goS ?_))))
  all_goals (refine ret_now _ ?_)
  all_goals (try simp only [bb] at *)
  all_goals first
    | (exfalso; clear hsc hq; omega)
    | (rw [errF_no fun hg => by
        have h1 := hg.h_st; have h2 := hg.h_inc0; have h3 := hg.h_inc1; have h4 := hg.h_len; have h5 := hg.h_emp; have h6 := hg.h_pend; have h7 := hg.h_none; have h8 := hg.h_pid; have h9 := hg.h_nonce; have h10 := hg.h_due; have h11 := hg.h_until_
        have h12 : q = 0 := hsc.2 fun j _ hj => hg.h_srt j (by omega)
        clear hsc hq hg
        omega])
    | (rw [errF_yes ⟨by omega, by omega, by omega, by omega, by omega, fun j hj => hsc.1 (by omega) j (Nat.zero_le _) (by omega), by omega, by omega, by omega, by omega, by omega, by omega⟩])
set_option maxHeartbeats 2000000 in
theorem ref19_7 (inc pid nonce due until_ code : Int) (starts : List Int) : Pure Tryz.prog 139 [Task.av ⟨7, inc, pid, nonce, due, until_, code, starts⟩] (I (errF 7 inc pid nonce due until_ code starts)) := by
  have hsc := scan_zero starts starts.length 0
  generalize hq : scan starts starts.length 0 = q at hsc
  refine Pure.ev Tryz.f139 mx Tryz.func139 (by kernel_rfl) rfl rfl rfl ?_ <;> (refine goS ?_ <;> repeat (intro _ <;> refine goS ?_))
  repeat' (first
    | (refine onB_mk (fun h => ?_) (fun h => ?_) <;> (try rw [h]) <;> (try simp [-List.getD_eq_getElem?_getD, wl, List.getD_cons_zero, List.getD_cons_succ] at h) <;> (refine goS ?_ <;> repeat (intro _ <;> refine goS ?_)))
    | (refine Pure.call (from19_p _ _) ?_ <;> (refine goS ?_ <;> repeat (intro _ <;> refine goS ?_)))
    | (refine Pure.call (hq ▸ starts_p starts) ?_ <;> (refine goS ?_ <;> repeat (intro _ <;> refine goS ?_))))
  all_goals (refine ret_now _ ?_)
  all_goals (try simp only [bb] at *)
  all_goals first
    | (exfalso; clear hsc hq; omega)
    | (rw [errF_no fun hg => by
        have h1 := hg.h_st; have h2 := hg.h_inc0; have h3 := hg.h_inc1; have h4 := hg.h_len; have h5 := hg.h_emp; have h6 := hg.h_pend; have h7 := hg.h_none; have h8 := hg.h_pid; have h9 := hg.h_nonce; have h10 := hg.h_due; have h11 := hg.h_until_
        have h12 : q = 0 := hsc.2 fun j _ hj => hg.h_srt j (by omega)
        clear hsc hq hg
        omega])
    | (rw [errF_yes ⟨by omega, by omega, by omega, by omega, by omega, fun j hj => hsc.1 (by omega) j (Nat.zero_le _) (by omega), by omega, by omega, by omega, by omega, by omega, by omega⟩])
set_option maxHeartbeats 2000000 in
theorem ref19_hi (st : Int) (hst : 7 < st) (inc pid nonce due until_ code : Int) (starts : List Int) : Pure Tryz.prog 139 [Task.av ⟨st, inc, pid, nonce, due, until_, code, starts⟩] (I (errF st inc pid nonce due until_ code starts)) := by
  have hsc := scan_zero starts starts.length 0
  generalize hq : scan starts starts.length 0 = q at hsc
  refine Pure.ev Tryz.f139 mx Tryz.func139 (by kernel_rfl) rfl rfl rfl ?_ <;> (refine goS ?_ <;> repeat (intro _ <;> refine goS ?_))
  repeat' (first
    | (refine onB_mk (fun h => absurd h (by simp; omega)) (fun h => ?_) <;> (try rw [h]) <;> (refine goS ?_ <;> repeat (intro _ <;> refine goS ?_)))
    | (refine onB_mk (fun h => ?_) (fun h => ?_) <;> (try rw [h]) <;> (try simp [-List.getD_eq_getElem?_getD, wl, List.getD_cons_zero, List.getD_cons_succ] at h) <;> (refine goS ?_ <;> repeat (intro _ <;> refine goS ?_)))
    | (refine Pure.call (from19_p _ _) ?_ <;> (refine goS ?_ <;> repeat (intro _ <;> refine goS ?_)))
    | (refine Pure.call (hq ▸ starts_p starts) ?_ <;> (refine goS ?_ <;> repeat (intro _ <;> refine goS ?_))))
  all_goals (refine ret_now _ ?_)
  all_goals (try simp only [bb] at *)
  all_goals first
    | (exfalso; clear hsc hq; omega)
    | (rw [errF_no fun hg => by
        have h1 := hg.h_st; have h2 := hg.h_inc0; have h3 := hg.h_inc1; have h4 := hg.h_len; have h5 := hg.h_emp; have h6 := hg.h_pend; have h7 := hg.h_none; have h8 := hg.h_pid; have h9 := hg.h_nonce; have h10 := hg.h_due; have h11 := hg.h_until_
        have h12 : q = 0 := hsc.2 fun j _ hj => hg.h_srt j (by omega)
        clear hsc hq hg
        omega])
    | (rw [errF_yes ⟨by omega, by omega, by omega, by omega, by omega, fun j hj => hsc.1 (by omega) j (Nat.zero_le _) (by omega), by omega, by omega, by omega, by omega, by omega, by omega⟩])
theorem ref19Check_p (t : Task) (h : 0 ≤ t.state) : Pure Tryz.prog 139 [t.av] (I (errT t)) := by
  obtain ⟨st, inc, pid, nonce, due, until_, code, starts⟩ := t
  rcases states h with h | h | h | h | h | h | h | h | h
  · obtain rfl : st = 0 := h
    exact ref19_0 _ _ _ _ _ _ _
  · obtain rfl : st = 1 := h
    exact ref19_1 _ _ _ _ _ _ _
  · obtain rfl : st = 2 := h
    exact ref19_2 _ _ _ _ _ _ _
  · obtain rfl : st = 3 := h
    exact ref19_3 _ _ _ _ _ _ _
  · obtain rfl : st = 4 := h
    exact ref19_4 _ _ _ _ _ _ _
  · obtain rfl : st = 5 := h
    exact ref19_5 _ _ _ _ _ _ _
  · obtain rfl : st = 6 := h
    exact ref19_6 _ _ _ _ _ _ _
  · obtain rfl : st = 7 := h
    exact ref19_7 _ _ _ _ _ _ _
  · exact ref19_hi _ h _ _ _ _ _ _ _
end Go.Proofs.YtdblhmpcilihnaaGreat
