/- The transitions of a task, as plain functions. The changes of a task: the program's. Starts in intervals (layer 12), the program's and the reference's. task.Intent, task.Exit. task.Exit. -/
import Derived.Test.YtdblhmpcilihnaaGreatM2
import Derived.Test.YtdblhmpcilihnaaGreatFz
import Derived.Test.YtdblhmpcilihnaaGreatE7
import Derived.Test.YtdblhmpcilihnaaGreatM3
import Derived.Test.YtdblhmpcilihnaaGreatE6
namespace Go.Proofs.YtdblhmpcilihnaaGreat
open Go.RowKit E
set_option maxRecDepth 100000
set_option linter.unusedVariables false
set_option linter.unusedSimpArgs false
abbrev mT : Int := 1099511627776
def lastS (l : List Int) : Int := l.getD (l.length - 1) (-1)
/-- How many starts lie in the interval. -/
def cntS (l : List Int) (w t : Int) : Nat := (l.filter fun x => decide (t - w < x) && decide (x ≤ t)).length
/-- The starts that still matter. -/
def keepS (l : List Int) (w t : Int) : List Int := if (l.filter fun x => decide (t - w < x)) = [] then l.drop (l.length - 1) else l.filter fun x => decide (t - w < x)
def dlyN (p : Policy) : Nat → Int
  | 0 => p.base
  | n + 1 => min (2 * dlyN p n) p.most
/-- The delay before a restart. -/
def dlyS (p : Policy) (n : Nat) : Int := dlyN p (n - 1)
/-- What a change of a task returns. -/
noncomputable def chgT (t : Task) (e : Int) (r : Int × Task) : Int × Task := if errT t ≠ 0 then (2, default) else if e ≠ 0 then (e, default) else if r.1 ≠ 0 then (r.1, default) else r
def lastN (l : List Int) (n : Nat) : List Int := l.drop (l.length - n)
def doIntent (t : Task) (p : Policy) (inc tick : Int) : Int × Task :=
  if t.state ≠ 0 ∧ (t.state ≠ 3 ∨ tick < t.due) then (7, default) else if inc ≤ t.inc ∨ tick < lastS t.starts then (13, default) else
  (0, ⟨1, inc, t.pid, t.nonce, 0, t.until_, t.code, lastN (keepS t.starts p.window tick) 7 ++ [tick]⟩)
noncomputable def intentT (t : Task) (p : Policy) (inc tick : Int) : Int × Task := chgT t (if p.ok ∧ inR inc 1 mT ∧ inR tick 0 mT then 0 else 3) (doIntent t p inc tick)
def doHandle (t : Task) (pid nonce : Int) : Int × Task := if t.state ≠ 1 then (7, default) else (0, ⟨2, t.inc, pid, nonce, t.due, t.until_, t.code, t.starts⟩)
noncomputable def handleT (t : Task) (pid nonce : Int) : Int × Task := chgT t (if inR pid 0 mT ∧ inR nonce 0 mT then 0 else 3) (doHandle t pid nonce)
def doFail (t : Task) : Int × Task := if t.state ≠ 1 then (7, default) else (0, ⟨7, t.inc, t.pid, t.nonce, t.due, t.until_, t.code, t.starts⟩)
noncomputable def failT (t : Task) : Int × Task := chgT t 0 (doFail t)
def doKill (t : Task) : Int × Task := if t.state ≠ 1 ∧ t.state ≠ 2 ∧ t.state ≠ 4 then (7, default) else (0, ⟨5, t.inc, t.pid, t.nonce, t.due, 0, t.code, t.starts⟩)
noncomputable def killT (t : Task) : Int × Task := chgT t 0 (doKill t)
def doStop (t : Task) (n : Int) : Int × Task :=
  if t.state = 4 then (7, default) else if t.state = 0 ∨ t.state = 3 then (0, ⟨6, t.inc, t.pid, t.nonce, 0, t.until_, t.code, t.starts⟩) else if t.state = 1 ∨ t.state = 2 then (0, ⟨4, t.inc, t.pid, t.nonce, t.due, n, t.code, t.starts⟩) else (0, t)
noncomputable def stopT (t : Task) (n : Int) : Int × Task := chgT t (if inR n 0 (2 * mT) then 0 else 3) (doStop t n)
def deadT (t : Task) (p : Policy) (stop : Bool) (code : Int) : Prop := t.state = 4 ∨ (t.state = 5 ∧ stop = true) ∨ ((t.state = 1 ∨ t.state = 2) ∧ code = 0 ∧ p.always = false)
instance (t : Task) (p : Policy) (stop : Bool) (code : Int) : Decidable (deadT t p stop code) := by unfold deadT; infer_instance
def doExit (t : Task) (p : Policy) (stop : Bool) (code tick : Int) : Int × Task :=
  if t.state ≠ 1 ∧ t.state ≠ 2 ∧ t.state ≠ 4 ∧ t.state ≠ 5 then (7, default) else if tick < lastS t.starts then (13, default) else
  if deadT t p stop code then (0, ⟨6, t.inc, 0, 0, t.due, 0, code, t.starts⟩) else
  if p.limit ≤ cntS t.starts p.window tick then (0, ⟨7, t.inc, 0, 0, t.due, 0, code, t.starts⟩) else (0, ⟨3, t.inc, 0, 0, tick + dlyS p (cntS t.starts p.window tick), 0, code, t.starts⟩)
noncomputable def exitT (t : Task) (p : Policy) (stop : Bool) (code tick : Int) : Int × Task := chgT t (if p.ok ∧ inR tick 0 mT then 0 else 3) (doExit t p stop code tick)
/-- A change's result as the engine has it. -/
abbrev resT (r : Int × Task) : E.AV := .tup [r.2.av, I r.1]
theorem ranged_p (b : Bool) : Pure Tryz.prog 196 [B b] (I (if b then 0 else 3)) := by
  cases b
  all_goals
    refine Pure.ev Tryz.f196 mx Tryz.func196 (by kernel_rfl) rfl rfl rfl ?_ <;> (refine goS ?_ <;> repeat (intro _ <;> refine goS ?_))
    exact ret_now _ rfl
theorem chgT_1 {t : Task} {e : Int} {r : Int × Task} (h : errT t ≠ 0) : chgT t e r = (2, default) := if_pos h
theorem chgT_2 {t : Task} {e : Int} {r : Int × Task} (h : errT t = 0) (h2 : e ≠ 0) : chgT t e r = (e, default) := by unfold chgT; rw [if_neg (not_not_intro h), if_pos h2]
theorem chgT_3 {t : Task} {e : Int} {r : Int × Task} (h : errT t = 0) (h2 : e = 0) (h3 : r.1 ≠ 0) : chgT t e r = (r.1, default) := by unfold chgT; rw [if_neg (not_not_intro h), if_neg (not_not_intro h2), if_pos h3]
theorem chgT_4 {t : Task} {e : Int} {r : Int × Task} (h : errT t = 0) (h2 : e = 0) (h3 : r.1 = 0) : chgT t e r = r := by unfold chgT; rw [if_neg (not_not_intro h), if_neg (not_not_intro h2), if_neg (not_not_intro h3)]
theorem errT_2 {t : Task} (h : errT t ≠ 0) : errT t = 2 := by
  unfold errT errF at *
  by_cases c : goodF t.state t.inc t.pid t.nonce t.due t.until_ t.code t.starts
  · rw [if_pos c] at h; exact absurd rfl h
  · rw [if_neg c]
abbrev Task.row (t : Task) : List AV := t.fv.map FV.up
/-- One task in a block. -/
abbrev hpT (t : Task) : Hp := ⟨1, [(0, some ⟨8, [t.row], none⟩)]⟩
def outT (t : Task) (r : Int × Task) : Task := if r.1 = 0 then r.2 else t
/-- What a change's step does to the task at hand. -/
abbrev StepT (f : FuncId) (a : AV) (t : Task) (r : Int × Task) : Prop := E.ACalls Tryz.prog f [.hptr 0 8 0 0, a] (hpT t) fun x H => x = I r.1 ∧ H = hpT (outT t r)
theorem one_ints {n : Nat} {f : Nat → Int} : oneRows ((List.range n).map fun i => [I (f i)]) := fun row hr y hy => by
  obtain ⟨i, _, rfl⟩ := List.mem_map.1 hr
  rw [List.mem_singleton.1 hy]; rfl
theorem changeI_p (t : Task) (hs : 0 ≤ t.state) (n e : Int) (fc fs : FuncId) (r : Int × Task) (hc : E.Pure Tryz.prog fc [I n] (I e)) (hst : errT t = 0 → e = 0 → StepT fs (I n) t r) :
    Pure Tryz.prog 194 [t.av, I n, .fn (.func fc) [] [], .fn (.func fs) [] []] (resT (chgT t e r)) := by
  refine Pure.ev Tryz.f194 mx Tryz.func194 (by kernel_rfl) rfl rfl rfl ?_ <;> (refine goS ?_ <;> repeat (intro _ <;> refine goS ?_))
  (first | refine Pure.call (taskCheck_p t hs) ?_ | refine HCall.pure (taskCheck_p t hs) ?_) <;> (refine goS ?_ <;> repeat (intro _ <;> refine goS ?_))
  (refine bnS (fun hr h => ?_) (fun hr h => ?_) <;> first | (exact False.elim h) | ((refine goS ?_ <;> repeat (intro _ <;> refine goS ?_))))
  · exact ret_frz (x1 := resT (2, default)) ⟨⟨rfl, rfl, rfl, rfl, rfl, rfl, rfl, rfl, trivial⟩, congrArg I (errT_2 h), trivial⟩ (congrArg resT (chgT_1 h).symm)
  · have h1 : errT t = 0 := h
    (first | refine Pure.call (hc) ?_ | refine HCall.pure (hc) ?_) <;> (refine goS ?_ <;> repeat (intro _ <;> refine goS ?_))
    (refine bnS (fun hr h => ?_) (fun hr h => ?_) <;> first | (exact False.elim h) | ((refine goS ?_ <;> repeat (intro _ <;> refine goS ?_))))
    · exact ret_frz (x1 := resT (e, default)) ⟨⟨rfl, rfl, rfl, rfl, rfl, rfl, rfl, rfl, trivial⟩, rfl, trivial⟩ (congrArg resT (chgT_2 h1 h).symm)
    · have h2 : e = 0 := h
      have hl := (show t.starts.length ≤ 8 by
        unfold errT errF at h1
        by_cases c : goodF t.state t.inc t.pid t.nonce t.due t.until_ t.code t.starts
        · exact c.h_len
        · rw [if_neg c] at h1; cases h1)
      refine And.intro ⟨by omega, by omega, by (show (8 : Int) * (t.starts.length : Int) ≤ 140737488355328); omega, by omega⟩ ?_ <;> (refine goS ?_ <;> repeat (intro _ <;> refine goS ?_))
      have hr : ∀ i, i < t.starts.length → (overRows (List.replicate t.starts.length [I 0]) 0 ((List.range t.starts.length).map fun i => [I (t.starts.getD i 0)]))[i]? = some [I (t.starts.getD i 0)] := fun i hi => by
        rw [over_all (by simp)]; simp [hi]
      refine And.intro ⟨by simp, one_ints, by simp⟩ ?_ <;> (refine goS ?_ <;> repeat (intro _ <;> refine goS ?_))
      refine ACalls.fz (args1 := [.hptr 2 8 0 0, (I n)]) (fun i => Nat.beq i 3) [(2, some ⟨8, [t.row], none⟩)] ⟨rfl, frz_refl _ _, trivial⟩ ⟨⟨rfl, _, rfl, .inr ⟨rfl, rfl, rfl, fzRows1 ⟨rfl, rfl, rfl, rfl, rfl, rfl, rfl, frz_rng rfl rfl hr, trivial⟩⟩⟩, trivial⟩ rfl ?_
      refine ACalls.frame [2] (hst h1 h2) rfl rfl (by simp) rfl rfl ⟨⟨rfl, _, rfl, .inl ⟨rfl, free1 rfl⟩, nofun⟩, trivial⟩ ?_
      rintro x H' hle ⟨rfl, rfl⟩
      refine ⟨rfl, [(2, some ⟨8, [(outT t r).row], none⟩)], ⟨⟨rfl, rfl, .inl ⟨rfl, free1 rfl⟩, .inl ⟨rfl, nofun⟩⟩, trivial⟩, ?_⟩
      (refine goS ?_ <;> repeat (intro _ <;> refine goS ?_))
      (refine bnS (fun hr h => ?_) (fun hr h => ?_) <;> first | (exact False.elim h) | ((refine goS ?_ <;> repeat (intro _ <;> refine goS ?_))))
      · exact ret_frz (x1 := resT (r.1, default)) ⟨⟨rfl, rfl, rfl, rfl, rfl, rfl, rfl, rfl, trivial⟩, rfl, trivial⟩ (congrArg resT (chgT_3 h1 h2 h).symm)
      · exact ret_frz (x1 := .tup [(outT t r).av, I 0]) ⟨⟨rfl, rfl, rfl, rfl, rfl, rfl, rfl, rfl, trivial⟩, rfl, trivial⟩ (by rw [chgT_4 h1 h2 h]; unfold resT outT; rw [if_pos h, h])
-- END changeI_p
theorem changeP_p (t : Task) (hs : 0 ≤ t.state) (a b e : Int) (fc fs : FuncId) (r : Int × Task) (hc : E.Pure Tryz.prog fc [(.agg [I a, I b])] (I e)) (hst : errT t = 0 → e = 0 → StepT fs (.agg [I a, I b]) t r) :
    Pure Tryz.prog 203 [t.av, (.agg [I a, I b]), .fn (.func fc) [] [], .fn (.func fs) [] []] (resT (chgT t e r)) := by
  refine Pure.ev Tryz.f203 mx Tryz.func203 (by kernel_rfl) rfl rfl rfl ?_ <;> (refine goS ?_ <;> repeat (intro _ <;> refine goS ?_))
  (first | refine Pure.call (taskCheck_p t hs) ?_ | refine HCall.pure (taskCheck_p t hs) ?_) <;> (refine goS ?_ <;> repeat (intro _ <;> refine goS ?_))
  (refine bnS (fun hr h => ?_) (fun hr h => ?_) <;> first | (exact False.elim h) | ((refine goS ?_ <;> repeat (intro _ <;> refine goS ?_))))
  · exact ret_frz (x1 := resT (2, default)) ⟨⟨rfl, rfl, rfl, rfl, rfl, rfl, rfl, rfl, trivial⟩, congrArg I (errT_2 h), trivial⟩ (congrArg resT (chgT_1 h).symm)
  · have h1 : errT t = 0 := h
    (first | refine Pure.call (hc) ?_ | refine HCall.pure (hc) ?_) <;> (refine goS ?_ <;> repeat (intro _ <;> refine goS ?_))
    (refine bnS (fun hr h => ?_) (fun hr h => ?_) <;> first | (exact False.elim h) | ((refine goS ?_ <;> repeat (intro _ <;> refine goS ?_))))
    · exact ret_frz (x1 := resT (e, default)) ⟨⟨rfl, rfl, rfl, rfl, rfl, rfl, rfl, rfl, trivial⟩, rfl, trivial⟩ (congrArg resT (chgT_2 h1 h).symm)
    · have h2 : e = 0 := h
      have hl := (show t.starts.length ≤ 8 by
        unfold errT errF at h1
        by_cases c : goodF t.state t.inc t.pid t.nonce t.due t.until_ t.code t.starts
        · exact c.h_len
        · rw [if_neg c] at h1; cases h1)
      refine And.intro ⟨by omega, by omega, by (show (8 : Int) * (t.starts.length : Int) ≤ 140737488355328); omega, by omega⟩ ?_ <;> (refine goS ?_ <;> repeat (intro _ <;> refine goS ?_))
      have hr : ∀ i, i < t.starts.length → (overRows (List.replicate t.starts.length [I 0]) 0 ((List.range t.starts.length).map fun i => [I (t.starts.getD i 0)]))[i]? = some [I (t.starts.getD i 0)] := fun i hi => by
        rw [over_all (by simp)]; simp [hi]
      refine And.intro ⟨by simp, one_ints, by simp⟩ ?_ <;> (refine goS ?_ <;> repeat (intro _ <;> refine goS ?_))
      refine ACalls.fz (args1 := [.hptr 3 8 0 0, (.agg [I a, I b])]) (fun i => Nat.beq i 4) [(3, some ⟨8, [t.row], none⟩)] ⟨rfl, frz_refl _ _, trivial⟩ ⟨⟨rfl, _, rfl, .inr ⟨rfl, rfl, rfl, fzRows1 ⟨rfl, rfl, rfl, rfl, rfl, rfl, rfl, frz_rng rfl rfl hr, trivial⟩⟩⟩, trivial⟩ rfl ?_
      refine ACalls.frame [3] (hst h1 h2) rfl rfl (by simp) rfl rfl ⟨⟨rfl, _, rfl, .inl ⟨rfl, free1 rfl⟩, nofun⟩, trivial⟩ ?_
      rintro x H' hle ⟨rfl, rfl⟩
      refine ⟨rfl, [(3, some ⟨8, [(outT t r).row], none⟩)], ⟨⟨rfl, rfl, .inl ⟨rfl, free1 rfl⟩, .inl ⟨rfl, nofun⟩⟩, trivial⟩, ?_⟩
      (refine goS ?_ <;> repeat (intro _ <;> refine goS ?_))
      (refine bnS (fun hr h => ?_) (fun hr h => ?_) <;> first | (exact False.elim h) | ((refine goS ?_ <;> repeat (intro _ <;> refine goS ?_))))
      · exact ret_frz (x1 := resT (r.1, default)) ⟨⟨rfl, rfl, rfl, rfl, rfl, rfl, rfl, rfl, trivial⟩, rfl, trivial⟩ (congrArg resT (chgT_3 h1 h2 h).symm)
      · exact ret_frz (x1 := .tup [(outT t r).av, I 0]) ⟨⟨rfl, rfl, rfl, rfl, rfl, rfl, rfl, rfl, trivial⟩, rfl, trivial⟩ (by rw [chgT_4 h1 h2 h]; unfold resT outT; rw [if_pos h, h])
theorem changeS_p (t : Task) (hs : 0 ≤ t.state) (inc tick e : Int) (p : Policy) (fc fs : FuncId) (r : Int × Task) (hc : E.Pure Tryz.prog fc [(.agg [B p.always, I p.limit, I p.window, I p.base, I p.most, I inc, I tick])] (I e)) (hst : errT t = 0 → e = 0 → StepT fs (.agg [B p.always, I p.limit, I p.window, I p.base, I p.most, I inc, I tick]) t r) :
    Pure Tryz.prog 198 [t.av, (.agg [B p.always, I p.limit, I p.window, I p.base, I p.most, I inc, I tick]), .fn (.func fc) [] [], .fn (.func fs) [] []] (resT (chgT t e r)) := by
  refine Pure.ev Tryz.f198 mx Tryz.func198 (by kernel_rfl) rfl rfl rfl ?_ <;> (refine goS ?_ <;> repeat (intro _ <;> refine goS ?_))
  (first | refine Pure.call (taskCheck_p t hs) ?_ | refine HCall.pure (taskCheck_p t hs) ?_) <;> (refine goS ?_ <;> repeat (intro _ <;> refine goS ?_))
  (refine bnS (fun hr h => ?_) (fun hr h => ?_) <;> first | (exact False.elim h) | ((refine goS ?_ <;> repeat (intro _ <;> refine goS ?_))))
  · exact ret_frz (x1 := resT (2, default)) ⟨⟨rfl, rfl, rfl, rfl, rfl, rfl, rfl, rfl, trivial⟩, congrArg I (errT_2 h), trivial⟩ (congrArg resT (chgT_1 h).symm)
  · have h1 : errT t = 0 := h
    (first | refine Pure.call (hc) ?_ | refine HCall.pure (hc) ?_) <;> (refine goS ?_ <;> repeat (intro _ <;> refine goS ?_))
    (refine bnS (fun hr h => ?_) (fun hr h => ?_) <;> first | (exact False.elim h) | ((refine goS ?_ <;> repeat (intro _ <;> refine goS ?_))))
    · exact ret_frz (x1 := resT (e, default)) ⟨⟨rfl, rfl, rfl, rfl, rfl, rfl, rfl, rfl, trivial⟩, rfl, trivial⟩ (congrArg resT (chgT_2 h1 h).symm)
    · have h2 : e = 0 := h
      have hl := (show t.starts.length ≤ 8 by
        unfold errT errF at h1
        by_cases c : goodF t.state t.inc t.pid t.nonce t.due t.until_ t.code t.starts
        · exact c.h_len
        · rw [if_neg c] at h1; cases h1)
      refine And.intro ⟨by omega, by omega, by (show (8 : Int) * (t.starts.length : Int) ≤ 140737488355328); omega, by omega⟩ ?_ <;> (refine goS ?_ <;> repeat (intro _ <;> refine goS ?_))
      have hr : ∀ i, i < t.starts.length → (overRows (List.replicate t.starts.length [I 0]) 0 ((List.range t.starts.length).map fun i => [I (t.starts.getD i 0)]))[i]? = some [I (t.starts.getD i 0)] := fun i hi => by
        rw [over_all (by simp)]; simp [hi]
      refine And.intro ⟨by simp, one_ints, by simp⟩ ?_ <;> (refine goS ?_ <;> repeat (intro _ <;> refine goS ?_))
      refine ACalls.fz (args1 := [.hptr 3 8 0 0, (.agg [B p.always, I p.limit, I p.window, I p.base, I p.most, I inc, I tick])]) (fun i => Nat.beq i 4) [(3, some ⟨8, [t.row], none⟩)] ⟨rfl, frz_refl _ _, trivial⟩ ⟨⟨rfl, _, rfl, .inr ⟨rfl, rfl, rfl, fzRows1 ⟨rfl, rfl, rfl, rfl, rfl, rfl, rfl, frz_rng rfl rfl hr, trivial⟩⟩⟩, trivial⟩ rfl ?_
      refine ACalls.frame [3] (hst h1 h2) rfl rfl (by simp) rfl rfl ⟨⟨rfl, _, rfl, .inl ⟨rfl, free1 rfl⟩, nofun⟩, trivial⟩ ?_
      rintro x H' hle ⟨rfl, rfl⟩
      refine ⟨rfl, [(3, some ⟨8, [(outT t r).row], none⟩)], ⟨⟨rfl, rfl, .inl ⟨rfl, free1 rfl⟩, .inl ⟨rfl, nofun⟩⟩, trivial⟩, ?_⟩
      (refine goS ?_ <;> repeat (intro _ <;> refine goS ?_))
      (refine bnS (fun hr h => ?_) (fun hr h => ?_) <;> first | (exact False.elim h) | ((refine goS ?_ <;> repeat (intro _ <;> refine goS ?_))))
      · exact ret_frz (x1 := resT (r.1, default)) ⟨⟨rfl, rfl, rfl, rfl, rfl, rfl, rfl, rfl, trivial⟩, rfl, trivial⟩ (congrArg resT (chgT_3 h1 h2 h).symm)
      · exact ret_frz (x1 := .tup [(outT t r).av, I 0]) ⟨⟨rfl, rfl, rfl, rfl, rfl, rfl, rfl, rfl, trivial⟩, rfl, trivial⟩ (by rw [chgT_4 h1 h2 h]; unfold resT outT; rw [if_pos h, h])
theorem changeE_p (t : Task) (hs : 0 ≤ t.state) (code tick e : Int) (p : Policy) (stop : Bool) (fc fs : FuncId) (r : Int × Task) (hc : E.Pure Tryz.prog fc [(.agg [B p.always, I p.limit, I p.window, I p.base, I p.most, B stop, I code, I tick])] (I e)) (hst : errT t = 0 → e = 0 → StepT fs (.agg [B p.always, I p.limit, I p.window, I p.base, I p.most, B stop, I code, I tick]) t r) :
    Pure Tryz.prog 209 [t.av, (.agg [B p.always, I p.limit, I p.window, I p.base, I p.most, B stop, I code, I tick]), .fn (.func fc) [] [], .fn (.func fs) [] []] (resT (chgT t e r)) := by
  refine Pure.ev Tryz.f209 mx Tryz.func209 (by kernel_rfl) rfl rfl rfl ?_ <;> (refine goS ?_ <;> repeat (intro _ <;> refine goS ?_))
  (first | refine Pure.call (taskCheck_p t hs) ?_ | refine HCall.pure (taskCheck_p t hs) ?_) <;> (refine goS ?_ <;> repeat (intro _ <;> refine goS ?_))
  (refine bnS (fun hr h => ?_) (fun hr h => ?_) <;> first | (exact False.elim h) | ((refine goS ?_ <;> repeat (intro _ <;> refine goS ?_))))
  · exact ret_frz (x1 := resT (2, default)) ⟨⟨rfl, rfl, rfl, rfl, rfl, rfl, rfl, rfl, trivial⟩, congrArg I (errT_2 h), trivial⟩ (congrArg resT (chgT_1 h).symm)
  · have h1 : errT t = 0 := h
    (first | refine Pure.call (hc) ?_ | refine HCall.pure (hc) ?_) <;> (refine goS ?_ <;> repeat (intro _ <;> refine goS ?_))
    (refine bnS (fun hr h => ?_) (fun hr h => ?_) <;> first | (exact False.elim h) | ((refine goS ?_ <;> repeat (intro _ <;> refine goS ?_))))
    · exact ret_frz (x1 := resT (e, default)) ⟨⟨rfl, rfl, rfl, rfl, rfl, rfl, rfl, rfl, trivial⟩, rfl, trivial⟩ (congrArg resT (chgT_2 h1 h).symm)
    · have h2 : e = 0 := h
      have hl := (show t.starts.length ≤ 8 by
        unfold errT errF at h1
        by_cases c : goodF t.state t.inc t.pid t.nonce t.due t.until_ t.code t.starts
        · exact c.h_len
        · rw [if_neg c] at h1; cases h1)
      refine And.intro ⟨by omega, by omega, by (show (8 : Int) * (t.starts.length : Int) ≤ 140737488355328); omega, by omega⟩ ?_ <;> (refine goS ?_ <;> repeat (intro _ <;> refine goS ?_))
      have hr : ∀ i, i < t.starts.length → (overRows (List.replicate t.starts.length [I 0]) 0 ((List.range t.starts.length).map fun i => [I (t.starts.getD i 0)]))[i]? = some [I (t.starts.getD i 0)] := fun i hi => by
        rw [over_all (by simp)]; simp [hi]
      refine And.intro ⟨by simp, one_ints, by simp⟩ ?_ <;> (refine goS ?_ <;> repeat (intro _ <;> refine goS ?_))
      refine ACalls.fz (args1 := [.hptr 3 8 0 0, (.agg [B p.always, I p.limit, I p.window, I p.base, I p.most, B stop, I code, I tick])]) (fun i => Nat.beq i 4) [(3, some ⟨8, [t.row], none⟩)] ⟨rfl, frz_refl _ _, trivial⟩ ⟨⟨rfl, _, rfl, .inr ⟨rfl, rfl, rfl, fzRows1 ⟨rfl, rfl, rfl, rfl, rfl, rfl, rfl, frz_rng rfl rfl hr, trivial⟩⟩⟩, trivial⟩ rfl ?_
      refine ACalls.frame [3] (hst h1 h2) rfl rfl (by simp) rfl rfl ⟨⟨rfl, _, rfl, .inl ⟨rfl, free1 rfl⟩, nofun⟩, trivial⟩ ?_
      rintro x H' hle ⟨rfl, rfl⟩
      refine ⟨rfl, [(3, some ⟨8, [(outT t r).row], none⟩)], ⟨⟨rfl, rfl, .inl ⟨rfl, free1 rfl⟩, .inl ⟨rfl, nofun⟩⟩, trivial⟩, ?_⟩
      (refine goS ?_ <;> repeat (intro _ <;> refine goS ?_))
      (refine bnS (fun hr h => ?_) (fun hr h => ?_) <;> first | (exact False.elim h) | ((refine goS ?_ <;> repeat (intro _ <;> refine goS ?_))))
      · exact ret_frz (x1 := resT (r.1, default)) ⟨⟨rfl, rfl, rfl, rfl, rfl, rfl, rfl, rfl, trivial⟩, rfl, trivial⟩ (congrArg resT (chgT_3 h1 h2 h).symm)
      · exact ret_frz (x1 := .tup [(outT t r).av, I 0]) ⟨⟨rfl, rfl, rfl, rfl, rfl, rfl, rfl, rfl, trivial⟩, rfl, trivial⟩ (by rw [chgT_4 h1 h2 h]; unfold resT outT; rw [if_pos h, h])

theorem ret_st {n0 : Nat} {x : AV} {H : Hp} {t t' : Task} {r r' : Int × Task} (e : r = r') (ho : outT t r' = t') (hg : H.get 0 = some ⟨8, [t'.row], none⟩) (hx : x = I r'.1) (hn : Nat.ble n0 1 = true) : ∃ x1 H1, Wk n0 [(0, x)] H [(0, x1)] H1 ∧ (x1 = I r.1 ∧ H1 = hpT (outT t r)) := by
  subst e ho hx
  exact ⟨I r.1, hpT (outT t r), Wk.cut hn ⟨⟨rfl, rfl⟩, trivial⟩ ⟨⟨hg, rfl, row1 rfl, nofun⟩, trivial⟩, rfl, rfl⟩
theorem fine_p (n : Int) : Pure Tryz.prog 206 [I n] (I 0) := by
  refine Pure.ev Tryz.f206 mx Tryz.func206 (by kernel_rfl) rfl rfl rfl ?_ <;> (refine goS ?_ <;> repeat (intro _ <;> refine goS ?_))
  exact ret_now _ rfl
theorem ite_eqv {p q : Prop} [Decidable p] [Decidable q] {a b : Int} (h : p ↔ q) : (if p then a else b) = if q then a else b := by
  by_cases c : p
  · rw [if_pos c, if_pos (h.1 c)]
  · rw [if_neg c, if_neg fun d => c (h.2 d)]
theorem stopChk_p (n : Int) : Pure Tryz.prog 195 [I n] (I (if inR n 0 (2 * mT) then 0 else 3)) := by
  refine Pure.ev Tryz.f195 mx Tryz.func195 (by kernel_rfl) rfl rfl rfl ?_ <;> (refine goS ?_ <;> repeat (intro _ <;> refine goS ?_))
  (first | refine Pure.call (in_p _ _ _) ?_ | refine HCall.pure (in_p _ _ _) ?_) <;> (refine goS ?_ <;> repeat (intro _ <;> refine goS ?_))
  (first | refine Pure.call (ranged_p _) ?_ | refine HCall.pure (ranged_p _) ?_) <;> (refine goS ?_ <;> repeat (intro _ <;> refine goS ?_))
  exact ret_now _ (congrArg I (ite_eqv (by simp [inR, mT])))
theorem stopStep (t : Task) (n : Int) : StepT 197 (I n) t (doStop t n) := by
  refine ACalls.ev Tryz.f197 mx Tryz.func197 (by kernel_rfl) rfl ?_ <;> (refine goS ?_ <;> repeat (intro _ <;> refine goS ?_))
  repeat' ((refine bnS (fun hr h => ?_) (fun hr h => ?_) <;> first | (exact False.elim h) | ((refine goS ?_ <;> repeat (intro _ <;> refine goS ?_)))))
  · exact ret_st (r' := (7, default)) (by simp [doStop, *]) rfl rfl rfl rfl
  · exact ret_st (r' := (0, ⟨6, t.inc, t.pid, t.nonce, 0, t.until_, t.code, t.starts⟩)) (by simp [doStop, *]) rfl rfl rfl rfl
  · exact ret_st (r' := (0, ⟨6, t.inc, t.pid, t.nonce, 0, t.until_, t.code, t.starts⟩)) (by simp [doStop, *]) rfl rfl rfl rfl
  · exact ret_st (r' := (0, ⟨4, t.inc, t.pid, t.nonce, t.due, n, t.code, t.starts⟩)) (by simp [doStop, *]) rfl rfl rfl rfl
  · exact ret_st (r' := (0, ⟨4, t.inc, t.pid, t.nonce, t.due, n, t.code, t.starts⟩)) (by simp [doStop, *]) rfl rfl rfl rfl
  · exact ret_st (r' := (0, t)) (by simp [doStop, *]) rfl rfl rfl rfl
theorem taskStop_p (t : Task) (n : Int) (hs : 0 ≤ t.state) : Pure Tryz.prog 164 [t.av, I n] (resT (stopT t n)) := by
  refine Pure.ev Tryz.f164 mx Tryz.func164 (by kernel_rfl) rfl rfl rfl ?_ <;> (refine goS ?_ <;> repeat (intro _ <;> refine goS ?_))
  (first | refine Pure.call (changeI_p t hs n _ _ _ _ (stopChk_p n) fun _ _ => stopStep t n) ?_ | refine HCall.pure (changeI_p t hs n _ _ _ _ (stopChk_p n) fun _ _ => stopStep t n) ?_) <;> (refine goS ?_ <;> repeat (intro _ <;> refine goS ?_))
  exact ret_now _ rfl
theorem failStep (t : Task) : StepT 207 (I 0) t (doFail t) := by
  refine ACalls.ev Tryz.f207 mx Tryz.func207 (by kernel_rfl) rfl ?_ <;> (refine goS ?_ <;> repeat (intro _ <;> refine goS ?_))
  repeat' ((refine bnS (fun hr h => ?_) (fun hr h => ?_) <;> first | (exact False.elim h) | ((refine goS ?_ <;> repeat (intro _ <;> refine goS ?_)))))
  · exact ret_st (r' := (7, default)) (by simp [doFail, *]) rfl rfl rfl rfl
  · exact ret_st (r' := (0, ⟨7, t.inc, t.pid, t.nonce, t.due, t.until_, t.code, t.starts⟩)) (by simp [doFail, *]) rfl rfl rfl rfl
theorem taskFail_p (t : Task) (hs : 0 ≤ t.state) : Pure Tryz.prog 168 [t.av] (resT (failT t)) := by
  refine Pure.ev Tryz.f168 mx Tryz.func168 (by kernel_rfl) rfl rfl rfl ?_ <;> (refine goS ?_ <;> repeat (intro _ <;> refine goS ?_))
  (first | refine Pure.call (changeI_p t hs 0 _ _ _ _ (fine_p 0) fun _ _ => failStep t) ?_ | refine HCall.pure (changeI_p t hs 0 _ _ _ _ (fine_p 0) fun _ _ => failStep t) ?_) <;> (refine goS ?_ <;> repeat (intro _ <;> refine goS ?_))
  exact ret_now _ rfl
theorem killStep (t : Task) : StepT 208 (I 0) t (doKill t) := by
  refine ACalls.ev Tryz.f208 mx Tryz.func208 (by kernel_rfl) rfl ?_ <;> (refine goS ?_ <;> repeat (intro _ <;> refine goS ?_))
  repeat' ((refine bnS (fun hr h => ?_) (fun hr h => ?_) <;> first | (exact False.elim h) | ((refine goS ?_ <;> repeat (intro _ <;> refine goS ?_)))))
  all_goals first
    | exact ret_st (r' := (7, default)) (by simp [doKill, *]) rfl rfl rfl rfl
    | exact ret_st (r' := (0, ⟨5, t.inc, t.pid, t.nonce, t.due, 0, t.code, t.starts⟩)) (by simp [doKill, *]) rfl rfl rfl rfl
theorem taskKill_p (t : Task) (hs : 0 ≤ t.state) : Pure Tryz.prog 169 [t.av] (resT (killT t)) := by
  refine Pure.ev Tryz.f169 mx Tryz.func169 (by kernel_rfl) rfl rfl rfl ?_ <;> (refine goS ?_ <;> repeat (intro _ <;> refine goS ?_))
  (first | refine Pure.call (changeI_p t hs 0 _ _ _ _ (fine_p 0) fun _ _ => killStep t) ?_ | refine HCall.pure (changeI_p t hs 0 _ _ _ _ (fine_p 0) fun _ _ => killStep t) ?_) <;> (refine goS ?_ <;> repeat (intro _ <;> refine goS ?_))
  exact ret_now _ rfl
theorem handleChk_p (a b : Int) : Pure Tryz.prog 204 [.agg [I a, I b]] (I (if inR a 0 mT ∧ inR b 0 mT then 0 else 3)) := by
  refine Pure.ev Tryz.f204 mx Tryz.func204 (by kernel_rfl) rfl rfl rfl ?_ <;> (refine goS ?_ <;> repeat (intro _ <;> refine goS ?_))
  (first | refine Pure.call (in_p _ _ _) ?_ | refine HCall.pure (in_p _ _ _) ?_) <;> (refine goS ?_ <;> repeat (intro _ <;> refine goS ?_))
  (refine bnS (fun hr h => ?_) (fun hr h => ?_) <;> first | (exact False.elim h) | ((refine goS ?_ <;> repeat (intro _ <;> refine goS ?_))))
  · (first | refine Pure.call (in_p _ _ _) ?_ | refine HCall.pure (in_p _ _ _) ?_) <;> (refine goS ?_ <;> repeat (intro _ <;> refine goS ?_))
    (first | refine Pure.call (ranged_p _) ?_ | refine HCall.pure (ranged_p _) ?_) <;> (refine goS ?_ <;> repeat (intro _ <;> refine goS ?_))
    exact ret_now _ (congrArg I (ite_eqv (by simp [inR, mT]; omega)))
  · (first | refine Pure.call (ranged_p _) ?_ | refine HCall.pure (ranged_p _) ?_) <;> (refine goS ?_ <;> repeat (intro _ <;> refine goS ?_))
    exact ret_now _ (congrArg I (ite_eqv (by simp [inR, mT]; omega)))
theorem handleStep (t : Task) (a b : Int) : StepT 205 (.agg [I a, I b]) t (doHandle t a b) := by
  refine ACalls.ev Tryz.f205 mx Tryz.func205 (by kernel_rfl) rfl ?_ <;> (refine goS ?_ <;> repeat (intro _ <;> refine goS ?_))
  repeat' ((refine bnS (fun hr h => ?_) (fun hr h => ?_) <;> first | (exact False.elim h) | ((refine goS ?_ <;> repeat (intro _ <;> refine goS ?_)))))
  · exact ret_st (r' := (7, default)) (by simp [doHandle, *]) rfl rfl rfl rfl
  · exact ret_st (r' := (0, ⟨2, t.inc, a, b, t.due, t.until_, t.code, t.starts⟩)) (by simp [doHandle, *]) rfl rfl rfl rfl
theorem taskHandle_p (t : Task) (a b : Int) (hs : 0 ≤ t.state) : Pure Tryz.prog 167 [t.av, I a, I b] (resT (handleT t a b)) := by
  refine Pure.ev Tryz.f167 mx Tryz.func167 (by kernel_rfl) rfl rfl rfl ?_ <;> (refine goS ?_ <;> repeat (intro _ <;> refine goS ?_))
  (first | refine Pure.call (changeP_p t hs a b _ _ _ _ (handleChk_p a b) fun _ _ => handleStep t a b) ?_ | refine HCall.pure (changeP_p t hs a b _ _ _ _ (handleChk_p a b) fun _ _ => handleStep t a b) ?_) <;> (refine goS ?_ <;> repeat (intro _ <;> refine goS ?_))
  exact ret_now _ rfl
def srt (l : List Int) : Prop := l.Pairwise (· ≤ ·)
def firstN (l : List Int) (a : Int) : Nat := (l.takeWhile fun x => decide (x ≤ a)).length
theorem filter_gt {l : List Int} (h : srt l) (a : Int) : (l.filter fun x => decide (a < x)) = l.drop (firstN l a) := by
  induction l with
  | nil => rfl
  | cons x l ih =>
    obtain ⟨h1, h2⟩ := List.pairwise_cons.1 h
    by_cases c : x ≤ a
    · have d : ¬ a < x := by omega
      simp only [List.filter_cons, firstN, List.takeWhile_cons, c, d, decide_true, decide_false, if_true, List.length_cons, List.drop_succ_cons]
      rw [ih h2]; rfl
    · have d : a < x := by omega
      simp only [List.filter_cons, firstN, List.takeWhile_cons, c, d, decide_true, decide_false, if_true, List.length_nil, List.drop_zero]
      congr 1
      exact List.filter_eq_self.2 fun y hy => by have := h1 y hy; simp; omega
theorem firstN_le (l : List Int) (a : Int) : firstN l a ≤ l.length := by
  unfold firstN
  exact (List.takeWhile_sublist _).length_le
theorem firstN_cnt {l : List Int} (h : srt l) (w t : Int) (hw : 0 ≤ w) : (cntS l w t : Int) = firstN l t - firstN l (t - w) := by
  unfold cntS
  induction l with
  | nil => rfl
  | cons x l ih =>
    obtain ⟨h1, h2⟩ := List.pairwise_cons.1 h
    have ih := ih h2
    by_cases c : x ≤ t
    · by_cases d : t - w < x
      · have d' : ¬ x ≤ t - w := by omega
        have e : firstN l (t - w) = 0 := by
          cases l with
          | nil => rfl
          | cons y l => have := h1 y (List.mem_cons_self ..); simp [firstN, List.takeWhile_cons, show ¬ y ≤ t - w by omega]
        simp only [firstN] at ih e
        simp [List.filter_cons, firstN, List.takeWhile_cons, c, d, d'] at ih ⊢
        omega
      · have d' : x ≤ t - w := by omega
        simp [List.filter_cons, firstN, List.takeWhile_cons, c, d, d'] at ih ⊢
        omega
    · have d' : ¬ x ≤ t - w := by omega
      have e : (l.filter fun x => decide (t - w < x) && decide (x ≤ t)) = [] := List.filter_eq_nil_iff.2 fun y hy => by have := h1 y hy; simp; omega
      simp [List.filter_cons, firstN, List.takeWhile_cons, c, d', e]
theorem keepS_drop {l : List Int} (h : srt l) (w t : Int) : keepS l w t = l.drop (min (firstN l (t - w)) (l.length - 1)) := by
  unfold keepS
  rw [filter_gt h]
  have := firstN_le l (t - w)
  by_cases c : l.drop (firstN l (t - w)) = []
  · rw [if_pos c]
    have := List.drop_eq_nil_iff.1 c
    congr 1; omega
  · rw [if_neg c]
    have : ¬ l.length ≤ firstN l (t - w) := fun e => c (List.drop_eq_nil_iff.2 e)
    congr 1; omega
theorem srt_of {l : List Int} (h : ∀ j, j < l.length → goodAt l j) : srt l := by
  refine List.pairwise_iff_getElem.2 fun i j hi hj hij => ?_
  have key : ∀ d, ∀ (hd : i + d < l.length), l[i] ≤ l[i + d] := fun d => by
    induction d with
    | zero => intro _; exact Int.le_refl _
    | succ d ih =>
      intro hd
      have h1 := ih (by omega)
      have h2 := (h (i + (d + 1)) hd).2 (by omega)
      simp only [List.getD_eq_getElem?_getD, show i + (d + 1) - 1 = i + d by omega, List.getElem?_eq_getElem hd, List.getElem?_eq_getElem (show i + d < l.length by omega), Option.getD_some] at h2
      omega
  have := key (j - i) (by omega)
  simpa [show i + (j - i) = j by omega] using this
/-- What a valid task's starts are. -/
structure okS (l : List Int) : Prop where
  len : l.length ≤ 8
  at_ : ∀ j, j < l.length → goodAt l j
theorem okS.srt {l : List Int} (h : okS l) : srt l := srt_of h.at_
theorem okS_of {t : Task} (h : errT t = 0) : okS t.starts := by
  unfold errT errF at h
  by_cases c : goodF t.state t.inc t.pid t.nonce t.due t.until_ t.code t.starts
  · exact ⟨c.h_len, c.h_srt⟩
  · rw [if_neg c] at h; cases h
theorem firstN_at {l : List Int} {a : Int} {k : Nat} (hk : k < l.length) (h : k ≤ firstN l a) : (l.getD k 0 ≤ a → k + 1 ≤ firstN l a) ∧ (a < l.getD k 0 → firstN l a = k) := by
  unfold firstN at *
  induction l generalizing k with
  | nil => cases hk
  | cons x l ih =>
    by_cases c : x ≤ a
    · simp only [List.takeWhile_cons, c, decide_true, if_true, List.length_cons] at h ⊢
      cases k with
      | zero => simp; omega
      | succ k =>
        have := ih (k := k) (by simpa using hk) (by omega)
        simp only [List.getD_cons_succ]
        omega
    · simp only [List.takeWhile_cons, c, decide_false, Bool.false_eq_true, if_false, List.length_nil] at h ⊢
      obtain rfl : k = 0 := by omega
      simp
      omega
theorem first_p (l : List Int) (a : Int) (hl : l.length ≤ 8) : Pure Tryz.prog 222 [slI l, I a] (I (firstN l a)) := by
  refine Pure.ev Tryz.f222 mx Tryz.func222 (by kernel_rfl) rfl rfl rfl ?_ <;> (refine goS ?_ <;> repeat (intro _ <;> refine goS ?_))
  refine loop_st (S := Nat) (fun k => [(0, slI l), (1, I a), (5, I k)]) (fun _ => ⟨0, []⟩) (fun k => k ≤ l.length ∧ k ≤ firstN l a) (fun k => l.length - k) 0 (Wk.sub ⟨rfl, rfl, rfl, trivial⟩) ⟨Nat.zero_le _, Nat.zero_le _⟩ ?_
  rintro k ⟨hk, hf⟩
  have hle := firstN_le l a
  (refine goS ?_ <;> repeat (intro _ <;> refine goS ?_))
  (refine bnS (fun hr h => ?_) (fun hr h => ?_) <;> first | (exact False.elim h) | ((refine goS ?_ <;> repeat (intro _ <;> refine goS ?_))))
  · exact ret_now _ (congrArg I (by omega))
  · have hk2 : k < l.length := by omega
    obtain ⟨h1, h2⟩ := firstN_at hk2 hf
    (refine bnS (fun hr h => ?_) (fun hr h => ?_) <;> first | (exact False.elim h) | ((refine goS ?_ <;> repeat (intro _ <;> refine goS ?_))))
    · exact ret_now _ (congrArg I (by rw [h2 h]))
    · exact ⟨k + 1, by omega, ⟨by omega, h1 h⟩, Wk.sub ⟨rfl, rfl, congrArg I (wrapS (by omega)), trivial⟩⟩
theorem winCheck_p (l : List Int) (w : Int) (hw : inR w 1 mT) (hg : okS l) : Pure Tryz.prog 229 [slI l, I w] (I 0) := by
  unfold inR mT at hw
  have hl := hg.len
  refine Pure.ev Tryz.f229 mx Tryz.func229 (by kernel_rfl) rfl rfl rfl ?_ <;> (refine goS ?_ <;> repeat (intro _ <;> refine goS ?_))
  repeat' ((refine bnS (fun hr h => ?_) (fun hr h => ?_) <;> first | (exfalso; omega) | ((refine goS ?_ <;> repeat (intro _ <;> refine goS ?_)))))
  refine loop_st (S := Nat) (fun k => [(0, slI l), (13, slI l), (14, I l.length), (15, I k)]) (fun _ => ⟨0, []⟩) (fun k => k ≤ l.length) (fun k => l.length - k) 0 (Wk.sub ⟨rfl, rfl, rfl, rfl, trivial⟩) (Nat.zero_le _) ?_
  intro k hk
  (refine goS ?_ <;> repeat (intro _ <;> refine goS ?_))
  (refine bnS (fun hr h => ?_) (fun hr h => ?_) <;> first | (exact False.elim h) | ((refine goS ?_ <;> repeat (intro _ <;> refine goS ?_))))
  · have hk2 : k < l.length := h
    obtain ⟨⟨g1, g2⟩, g3⟩ := hg.at_ k hk2
    repeat' (first
      | ((refine bnS (fun hr h => ?_) (fun hr h => ?_) <;> first | (exfalso; omega) | ((refine goS ?_ <;> repeat (intro _ <;> refine goS ?_)))))
      | (rw [wrapP (n := k) (by omega) (by omega)] <;> (refine goS ?_ <;> repeat (intro _ <;> refine goS ?_))))
    all_goals exact ⟨k + 1, by omega, by omega, Wk.sub ⟨rfl, rfl, rfl, congrArg I (wrapS (by omega)), trivial⟩⟩
  · exact ret_now _ rfl
theorem winTick_p (l : List Int) (w t : Int) (hw : inR w 1 mT) (hg : okS l) (ht : inR t 0 mT) : Pure Tryz.prog 221 [slI l, I w, I t] (I 0) := by
  unfold inR mT at ht
  refine Pure.ev Tryz.f221 mx Tryz.func221 (by kernel_rfl) rfl rfl rfl ?_ <;> (refine goS ?_ <;> repeat (intro _ <;> refine goS ?_))
  (first | refine Pure.call (winCheck_p l w hw hg) ?_ | refine HCall.pure (winCheck_p l w hw hg) ?_) <;> (refine goS ?_ <;> repeat (intro _ <;> refine goS ?_))
  repeat' ((refine bnS (fun hr h => ?_) (fun hr h => ?_) <;> first | (exfalso; omega) | ((refine goS ?_ <;> repeat (intro _ <;> refine goS ?_)))))
  exact ret_now _ rfl
theorem winCount_p (l : List Int) (w t : Int) (hw : inR w 1 mT) (hg : okS l) (ht : inR t 0 mT) : Pure Tryz.prog 223 [slI l, I w, I t] (.tup [I (cntS l w t), I 0]) := by
  have e := firstN_cnt hg.srt w t (by unfold inR at hw; omega)
  have h1 := firstN_le l t
  have h2 := firstN_le l (t - w)
  have hl := hg.len
  unfold inR mT at hw ht
  refine Pure.ev Tryz.f223 mx Tryz.func223 (by kernel_rfl) rfl rfl rfl ?_ <;> (refine goS ?_ <;> repeat (intro _ <;> refine goS ?_))
  (first | refine Pure.call (winTick_p l w t hw hg ht) ?_ | refine HCall.pure (winTick_p l w t hw hg ht) ?_) <;> (refine goS ?_ <;> repeat (intro _ <;> refine goS ?_))
  refine ACalls.ev Tryz.f230 mx Tryz.func230 (by kernel_rfl) rfl ?_ <;> (refine goS ?_ <;> repeat (intro _ <;> refine goS ?_))
  (first | refine Pure.call (first_p l _ hl) ?_ | refine HCall.pure (first_p l _ hl) ?_) <;> (refine goS ?_ <;> repeat (intro _ <;> refine goS ?_))
  rw [wrap_id (n := t - w) (by omega) (by omega)]
  (refine goS ?_ <;> repeat (intro _ <;> refine goS ?_))
  (first | refine Pure.call (first_p l _ hl) ?_ | refine HCall.pure (first_p l _ hl) ?_) <;> (refine goS ?_ <;> repeat (intro _ <;> refine goS ?_))
  refine ret_now _ ?_ <;> (refine goS ?_ <;> repeat (intro _ <;> refine goS ?_))
  rw [wrap_id (by omega) (by omega), ← e]
  exact ret_now _ rfl
theorem ref12check_p (l : List Int) (w : Int) (hw : inR w 1 mT) (hg : okS l) : Pure Tryz.prog 225 [slI l, I w] (I 0) := by
  have e := (scan_zero l l.length 0).2 fun j _ h => hg.at_ j (by omega)
  unfold inR mT at hw
  refine Pure.ev Tryz.f225 mx Tryz.func225 (by kernel_rfl) rfl rfl rfl ?_ <;> (refine goS ?_ <;> repeat (intro _ <;> refine goS ?_))
  repeat' ((refine bnS (fun hr h => ?_) (fun hr h => ?_) <;> first | (exfalso; omega) | ((refine goS ?_ <;> repeat (intro _ <;> refine goS ?_)))))
  (first | refine Pure.call (starts_p l) ?_ | refine HCall.pure (starts_p l) ?_) <;> (refine goS ?_ <;> repeat (intro _ <;> refine goS ?_))
  rw [e]
  exact ret_now _ rfl
theorem filter_takeS {p : Int → Bool} {l : List Int} {k : Nat} (h : k < l.length) : (l.take (k + 1)).filter p = (l.take k).filter p ++ if p (l.getD k 0) then [l.getD k 0] else [] := by
  rw [List.take_add_one, List.filter_append, List.getElem?_eq_getElem h]
  simp only [Option.toList_some, List.getD_eq_getElem?_getD, List.getElem?_eq_getElem h, Option.getD_some]
  cases hp : p l[k] <;> simp [hp]
theorem ref12Count_p (l : List Int) (w t : Int) (hw : inR w 1 mT) (hg : okS l) (ht : inR t 0 mT) : Pure Tryz.prog 215 [slI l, I w, I t] (.tup [I (cntS l w t), I 0]) := by
  have hl := hg.len
  have hc : cntS l w t = ((l.take l.length).filter fun x => decide (t - w < x) && decide (x ≤ t)).length := by rw [List.take_length]; rfl
  refine Pure.ev Tryz.f215 mx Tryz.func215 (by kernel_rfl) rfl rfl rfl ?_ <;> (refine goS ?_ <;> repeat (intro _ <;> refine goS ?_))
  (first | refine Pure.call (ref12check_p l w hw hg) ?_ | refine HCall.pure (ref12check_p l w hw hg) ?_) <;> (refine goS ?_ <;> repeat (intro _ <;> refine goS ?_))
  unfold inR mT at hw ht
  (first | refine Pure.call (tick_p t) ?_ | refine HCall.pure (tick_p t) ?_) <;> (refine goS ?_ <;> repeat (intro _ <;> refine goS ?_))
  repeat' ((refine bnS (fun hr h => ?_) (fun hr h => ?_) <;> first | (exfalso; omega) | ((refine goS ?_ <;> repeat (intro _ <;> refine goS ?_)))))
  have ew : IntKind.i64.wrap (t - w) = t - w := wrap_id (by omega) (by omega)
  refine loop_st (S := Nat) (fun k => [(0, slI l), (1, I w), (2, I t), (9, I ((l.take k).filter fun x => decide (t - w < x) && decide (x ≤ t)).length), (10, I k)]) (fun _ => ⟨0, []⟩) (fun k => k ≤ l.length) (fun k => l.length - k) 0 (Wk.sub ⟨rfl, rfl, rfl, rfl, rfl, trivial⟩) (Nat.zero_le _) ?_
  intro k hk
  have hf : ((l.take k).filter fun x => decide (t - w < x) && decide (x ≤ t)).length ≤ 8 := by
    have := List.length_filter_le (fun x => decide (t - w < x) && decide (x ≤ t)) (l.take k)
    rw [List.length_take] at this; omega
  (refine goS ?_ <;> repeat (intro _ <;> refine goS ?_))
  (refine bnS (fun hr h => ?_) (fun hr h => ?_) <;> first | (exact False.elim h) | ((refine goS ?_ <;> repeat (intro _ <;> refine goS ?_))))
  · have hk2 : k < l.length := h
    have hs := filter_takeS (p := fun x => decide (t - w < x) && decide (x ≤ t)) hk2
    rw [ew]
    (refine goS ?_ <;> repeat (intro _ <;> refine goS ?_))
    repeat' ((refine bnS (fun hr h => ?_) (fun hr h => ?_) <;> first | (exact False.elim h) | ((refine goS ?_ <;> repeat (intro _ <;> refine goS ?_)))))
    all_goals simp only [toNat_nat] at *
    · exact ⟨k + 1, by omega, by omega, Wk.sub ⟨rfl, rfl, rfl, by rw [hs, if_pos (by simp [-List.getD_eq_getElem?_getD, *])]; rw [List.length_append]; exact congrArg I (wrapS (by omega)), congrArg I (wrapS (by omega)), trivial⟩⟩
    · exact ⟨k + 1, by omega, by omega, Wk.sub ⟨rfl, rfl, rfl, by rw [hs, if_neg (by simp [-List.getD_eq_getElem?_getD, *]), List.append_nil]; rfl, congrArg I (wrapS (by omega)), trivial⟩⟩
    · exact ⟨k + 1, by omega, by omega, Wk.sub ⟨rfl, rfl, rfl, by rw [hs, if_neg (by simp [-List.getD_eq_getElem?_getD, *]), List.append_nil]; rfl, congrArg I (wrapS (by omega)), trivial⟩⟩
  · obtain rfl : k = l.length := by omega
    exact ret_now _ (by rw [hc])
abbrev rowsZ (L : List Int) : List (List AV) := L.map fun x => [I x]
theorem freeZ {L : List Int} : ∀ row ∈ rowsZ L, freeL row = true := fun row h => by
  obtain ⟨x, _, rfl⟩ := List.mem_map.1 h
  rfl
theorem frz_ints {z : Nat → Bool} {H : Hp} {d id n cap : Nat} {ex : Bool} {L : List Int} {mp : Option MB} (hz : z id = true) (hg : H.get id = some ⟨1, rowsZ L, mp⟩) (hn : n = L.length) : Frz z H (d + 1) (.hsl id 1 0 n cap ex) (slI L) :=
  frz_rng' hn hz hg fun i hi => by simp [rowsZ, List.getD_eq_getElem?_getD, hi]; rfl
theorem bd_one {x : AV} {n sz : Nat} {rows : List (List AV)} (hx : bdN n 5 x = true) (hn : Nat.blt 0 n = true) (h : ∀ row ∈ rows, freeL row = true) : (bdN n 5 x && bdE n [(0, some ⟨sz, rows, none⟩)]) = true := by
  have : (rows.all fun r => r.all (bdN n 5)) = true := List.all_eq_true.2 fun r hr => bd_rows h r hr
  simp only [hx, bdE, hn, this, bdM, Bool.and_self]
theorem winKeep_n (l : List Int) (w t : Int) (hw : inR w 1 mT) (hg : okS l) (ht : inR t 0 mT) : E.NPure Tryz.prog 202 [slI l, I w, I t] (.tup [.hsl 0 1 0 (keepS l w t).length (keepS l w t).length true, I 0]) 1 [(0, some ⟨1, rowsZ (keepS l w t), none⟩)] := by
  have e := keepS_drop hg.srt w t
  have h2 := firstN_le l (t - w)
  have hl := hg.len
  unfold inR mT at hw ht
  refine ⟨?_, rfl, bd_one rfl rfl freeZ⟩
  refine ACalls.ev Tryz.f202 mx Tryz.func202 (by kernel_rfl) rfl ?_ <;> (refine goS ?_ <;> repeat (intro _ <;> refine goS ?_))
  (first | refine Pure.call (winTick_p l w t hw hg ht) ?_ | refine HCall.pure (winTick_p l w t hw hg ht) ?_) <;> (refine goS ?_ <;> repeat (intro _ <;> refine goS ?_))
  rw [wrap_id (n := t - w) (by omega) (by omega)]
  (refine goS ?_ <;> repeat (intro _ <;> refine goS ?_))
  (first | refine Pure.call (first_p l _ hl) ?_ | refine HCall.pure (first_p l _ hl) ?_) <;> (refine goS ?_ <;> repeat (intro _ <;> refine goS ?_))
  rw [wrap_id (n := (l.length : Int) - 1) (by omega) (by omega)]
  rw [show max (min ((firstN l (t - w) : Nat) : Int) ((l.length : Int) - 1)) 0 = ((min (firstN l (t - w)) (l.length - 1) : Nat) : Int) by omega]
  have hm : min (firstN l (t - w)) (l.length - 1) ≤ l.length := by omega
  generalize min (firstN l (t - w)) (l.length - 1) = m at e hm ⊢
  (refine goS ?_ <;> repeat (intro _ <;> refine goS ?_))
  refine And.intro (by rw [List.length_map, List.length_range]; show _ * 8 ≤ _; omega) ?_ <;> (refine goS ?_ <;> repeat (intro _ <;> refine goS ?_))
  rw [e]
  have er : ((List.range ((l.length : Int) - (m : Int)).toNat).map fun i => [I (l.getD (m + i) 0)]) = rowsZ (l.drop m) := List.ext_getElem (by simp) fun i h1 h2 => by
    simp at h1
    simp [rowsZ, List.getD_eq_getElem?_getD, show m + i < l.length by omega]
  have el : ((((List.range ((l.length : Int) - (m : Int)).toNat).map fun i => [I (l.getD (m + i) 0)]).length : Int) - 0).toNat = (l.drop m).length := by simp
  exact ⟨_, _, Wk.cut (H1 := ⟨1, [(0, some ⟨1, rowsZ (l.drop m), none⟩)]⟩) rfl ⟨⟨congrArg (fun k => AV.tup [.hsl 0 1 0 k k true, I 0]) el, rfl⟩, trivial⟩ ⟨⟨congrArg (fun r => some (E.Blk.mk 1 r none)) er, rfl, bd_rows freeZ, nofun⟩, trivial⟩, rfl, rfl⟩
theorem keep_last {l : List Int} (hg : okS l) {w t : Int} (h : 0 < l.length) : keepS l w t = ((l.take (l.length - 1)).filter fun x => decide (t - w < x)) ++ [l.getD (l.length - 1) 0] := by
  have hs := filter_takeS (p := fun x => decide (t - w < x)) (show l.length - 1 < l.length by omega)
  rw [show l.length - 1 + 1 = l.length by omega, List.take_length] at hs
  have hd : l.drop (l.length - 1) = [l.getD (l.length - 1) 0] := by
    have := dropAtD (α := Int) (l := l) (k := l.length - 1) (by omega)
    rw [this, List.drop_of_length_le (by omega)]; rfl
  unfold keepS
  by_cases c : decide (t - w < l.getD (l.length - 1) 0) = true
  · rw [if_pos c] at hs
    rw [hs, if_neg (by simp)]
  · rw [if_neg c, List.append_nil] at hs
    have hz : l.filter (fun x => decide (t - w < x)) = [] := by
      rw [List.filter_eq_nil_iff]
      intro x hx
      obtain ⟨i, hi, rfl⟩ := List.getElem_of_mem hx
      have hp := List.pairwise_iff_getElem.1 hg.srt
      simp only [decide_eq_true_eq, List.getD_eq_getElem?_getD, List.getElem?_eq_getElem (show l.length - 1 < l.length by omega), Option.getD_some] at c ⊢
      rcases Nat.lt_or_ge i (l.length - 1) with h1 | h1
      · have := hp i (l.length - 1) hi (by omega) h1; omega
      · have : i = l.length - 1 := by omega
        subst this; exact c
    rw [if_pos hz, hd, ← hs, hz]; rfl
theorem ref12Keep_p (l : List Int) (w t : Int) (hw : inR w 1 mT) (hg : okS l) (ht : inR t 0 mT) : Pure Tryz.prog 214 [slI l, I w, I t] (.tup [slI (keepS l w t), I 0]) := by
  have hl := hg.len
  refine Pure.ev Tryz.f214 mx Tryz.func214 (by kernel_rfl) rfl rfl rfl ?_ <;> (refine goS ?_ <;> repeat (intro _ <;> refine goS ?_))
  (first | refine Pure.call (ref12check_p l w hw hg) ?_ | refine HCall.pure (ref12check_p l w hw hg) ?_) <;> (refine goS ?_ <;> repeat (intro _ <;> refine goS ?_))
  unfold inR mT at hw ht
  (first | refine Pure.call (tick_p t) ?_ | refine HCall.pure (tick_p t) ?_) <;> (refine goS ?_ <;> repeat (intro _ <;> refine goS ?_))
  repeat' ((refine bnS (fun hr h => ?_) (fun hr h => ?_) <;> first | (exfalso; omega) | ((refine goS ?_ <;> repeat (intro _ <;> refine goS ?_)))))
  have ew : IntKind.i64.wrap (t - w) = t - w := wrap_id (by omega) (by omega)
  refine loop_st (S := Nat × List Int) (fun z => [(0, slI l), (1, I w), (2, I t), (9, .hsl 0 1 0 z.2.length z.2.length false), (10, I z.1)]) (fun z => ⟨1, [(0, some ⟨1, rowsZ z.2, none⟩)]⟩)
    (fun z => z.1 ≤ l.length ∧ z.2.length ≤ 8 ∧ (z.1 < l.length → z.2 = (l.take z.1).filter fun x => decide (t - w < x)) ∧ (z.1 = l.length → z.2 = keepS l w t)) (fun z => l.length - z.1) (0, [])
    ((Wk.phantom 9 1 rfl).trans (Wk.sub ⟨rfl, rfl, rfl, rfl, rfl, trivial⟩)) ⟨Nat.zero_le _, Nat.zero_le _, fun _ => rfl, fun h => by
      obtain rfl := List.eq_nil_of_length_eq_zero h.symm; rfl⟩ ?_
  rintro ⟨k, acc⟩ ⟨hk, ha, h1, h2⟩
  dsimp only at hk ha h1 h2
  (refine goS ?_ <;> repeat (intro _ <;> refine goS ?_))
  (refine bnS (fun hr h => ?_) (fun hr h => ?_) <;> first | (exact False.elim h) | ((refine goS ?_ <;> repeat (intro _ <;> refine goS ?_))))
  · have hk2 : k < l.length := h
    have h1 := h1 hk2
    have hs := filter_takeS (p := fun x => decide (t - w < x)) hk2
    have hc : acc.length ≤ k := by
      have := List.length_filter_le (fun x => decide (t - w < x)) (l.take k)
      rw [← h1, List.length_take] at this; omega
    have hlast := keep_last hg (w := w) (t := t) (by omega)
    have ewl := wrapP (n := l.length) (by omega) (by omega)
    rw [ew]
    (refine goS ?_ <;> repeat (intro _ <;> refine goS ?_))
    repeat' ((refine bnS (fun hr h => ?_) (fun hr h => ?_) <;> first | (exact False.elim h) | ((refine goS ?_ <;> repeat (intro _ <;> refine goS ?_)))))
    all_goals simp only [toNat_nat, ewl] at *
    all_goals first
      | (refine And.intro ⟨by simp [rowsZ], oneRows_of rfl, by show _ * 8 ≤ _; simp; omega⟩ ?_ <;> (refine goS ?_ <;> repeat (intro _ <;> refine goS ?_))
         exact ⟨(k + 1, acc ++ [l.getD k 0]), by dsimp only; omega, ⟨by dsimp only; omega, by simp; omega, fun e => by dsimp only at e ⊢; rw [hs, ← h1, if_pos (by simp only [decide_eq_true_eq]; omega)], fun e => by
            obtain rfl : k = l.length - 1 := by dsimp only at e; omega
            dsimp only; rw [hlast, h1]⟩, Wk.re (fun _ => 2) rfl nofun inj1 ⟨⟨rfl, rfl⟩, ⟨rfl, rfl⟩, ⟨rfl, rfl⟩, ⟨by dsimp only; rw [List.length_append]; rfl, rfl⟩, ⟨by simp only [← wrapS (show k < 9223372036854775807 by omega)]; rfl, rfl⟩, trivial⟩
          ⟨⟨rfl, _, rfl, .inl ⟨by simp only [rowsZ, List.map_append]; rfl, freeZ⟩, nofun⟩, trivial⟩⟩)
      | exact ⟨(k + 1, acc), by dsimp only; omega, ⟨by dsimp only; omega, ha, fun _ => by dsimp only; rw [hs, ← h1, if_neg (by simp only [decide_eq_true_eq]; omega), List.append_nil], fun e => by exfalso; dsimp only at e; omega⟩, Wk.sub ⟨rfl, rfl, rfl, rfl, congrArg I (wrapS (by omega)), trivial⟩⟩
      | skip
    all_goals trace_state
  · obtain rfl : k = l.length := by omega
    exact ret_frz (x1 := .tup [slI acc, I 0]) ⟨frz_ints rfl rfl rfl, rfl, trivial⟩ (by rw [h2 rfl])
theorem ble_no {a b : Nat} (h : b < a) : Nat.ble a b = false := by
  cases c : Nat.ble a b
  · rfl
  · have := Nat.le_of_ble_eq_true c; omega
theorem rowsZ_shA (N : Nat) (L : List Int) : ((rowsZ L).map fun r => r.map (shA N)) = rowsZ L := by
  unfold rowsZ
  rw [List.map_map]; rfl
theorem ret_stz {n0 : Nat} {x : AV} {H : Hp} {t t' : Task} {r r' : Int × Task} (z : Nat → Bool) (e : r = r') (ho : outT t r' = t') (hx : x = I r'.1) (hn : Nat.ble n0 1 = true) (h : frzHp z H [(0, some ⟨8, [t'.row], none⟩)]) : ∃ x1 H1, Wk n0 [(0, x)] H [(0, x1)] H1 ∧ (x1 = I r.1 ∧ H1 = hpT (outT t r)) := by
  subst e ho hx
  exact ⟨I r.1, hpT (outT t r), (Wk.frz (fr1 := [(0, I r.1)]) z ⟨frz_refl 5 (I r.1), trivial⟩ h).trans (Wk.cut hn ⟨⟨rfl, rfl⟩, trivial⟩ ⟨⟨rfl, rfl, row1 rfl, nofun⟩, trivial⟩), rfl, rfl⟩
theorem keepS_len (l : List Int) (w t : Int) : (keepS l w t).length ≤ l.length := by
  unfold keepS
  by_cases c : (l.filter fun x => decide (t - w < x)) = []
  · rw [if_pos c]; simp
  · rw [if_neg c]; exact List.length_filter_le _ _
theorem last_p (t : Task) (hl : t.starts.length ≤ 8) : Pure Tryz.prog 201 [.fptr 8 1 (fun _ => t.fv) 0 0] (I (lastS t.starts)) := by
  refine Pure.ev Tryz.f201 mx Tryz.func201 (by kernel_rfl) rfl rfl rfl ?_ <;> (refine goS ?_ <;> repeat (intro _ <;> refine goS ?_))
  (refine bnS (fun hr h => ?_) (fun hr h => ?_) <;> first | (exact False.elim h) | ((refine goS ?_ <;> repeat (intro _ <;> refine goS ?_))))
  · exact ret_now _ (congrArg I (by rw [h]; rfl))
  · have h0 : t.starts.length ≠ 0 := fun e => h (List.eq_nil_of_length_eq_zero e)
    rw [wrapP (by omega) (by omega)]
    (refine goS ?_ <;> repeat (intro _ <;> refine goS ?_))
    exact ret_now _ (congrArg I (by rw [toNat_nat]; simp [lastS, List.getD_eq_getElem?_getD, show t.starts.length - 1 < t.starts.length by omega]))
theorem thaw_t {H : Hp} {id : Nat} {t : Task} (hg : H.get id = some ⟨8, [t.row], none⟩) : Thaw H (.hptr id 8 0 0) (.fptr 8 1 (fun _ => t.fv) 0 0) :=
  .ptr id 8 0 0 _ _ hg rfl (Nat.zero_lt_one) fun i hi => by
    obtain rfl : i = 0 := Nat.lt_one_iff.1 hi
    rfl
theorem last_h {q : Bool} {t : Task} (hl : t.starts.length ≤ 8) {H : Hp} {id : Nat} {K : AV → Hp → Prop} (hg : H.get id = some ⟨8, [t.row], none⟩) (hk : K (I (lastS t.starts)) H) : HCall Tryz.prog q 201 [.hptr id 8 0 0] H K :=
  HCall.thaw (last_p t hl) rfl (.cons (thaw_t hg) .nil) hk
abbrev argS (p : Policy) (inc tick : Int) : AV := .agg [B p.always, I p.limit, I p.window, I p.base, I p.most, I inc, I tick]
theorem intentChk_p (p : Policy) (inc tick : Int) : Pure Tryz.prog 199 [argS p inc tick] (I (if p.ok ∧ inR inc 1 mT ∧ inR tick 0 mT then 0 else 3)) := by
  refine Pure.ev Tryz.f199 mx Tryz.func199 (by kernel_rfl) rfl rfl rfl ?_ <;> (refine goS ?_ <;> repeat (intro _ <;> refine goS ?_))
  (first | refine Pure.call (delay_p p) ?_ | refine HCall.pure (delay_p p) ?_) <;> (refine goS ?_ <;> repeat (intro _ <;> refine goS ?_))
  by_cases hp : p.ok
  · rw [eUn_y hp]
    (refine goS ?_ <;> repeat (intro _ <;> refine goS ?_))
    (first | refine Pure.call (in_p _ _ _) ?_ | refine HCall.pure (in_p _ _ _) ?_) <;> (refine goS ?_ <;> repeat (intro _ <;> refine goS ?_))
    (refine bnS (fun hr h => ?_) (fun hr h => ?_) <;> first | (exact False.elim h) | ((refine goS ?_ <;> repeat (intro _ <;> refine goS ?_))))
    · (first | refine Pure.call (in_p _ _ _) ?_ | refine HCall.pure (in_p _ _ _) ?_) <;> (refine goS ?_ <;> repeat (intro _ <;> refine goS ?_))
      (first | refine Pure.call (ranged_p _) ?_ | refine HCall.pure (ranged_p _) ?_) <;> (refine goS ?_ <;> repeat (intro _ <;> refine goS ?_))
      exact ret_now _ (congrArg I (ite_eqv (by simp [inR, mT, hp]; omega)))
    · (first | refine Pure.call (ranged_p _) ?_ | refine HCall.pure (ranged_p _) ?_) <;> (refine goS ?_ <;> repeat (intro _ <;> refine goS ?_))
      exact ret_now _ (congrArg I (ite_eqv (by simp [inR, mT, hp]; omega)))
  · rw [eUn_n hp]
    (refine goS ?_ <;> repeat (intro _ <;> refine goS ?_))
    exact ret_now _ (congrArg I (by rw [if_neg fun h => hp h.1]))
theorem intentStep (t : Task) (p : Policy) (inc tick : Int) (ht : errT t = 0) (hp : p.ok) (hi : inR inc 1 mT) (hk : inR tick 0 mT) : StepT 200 (argS p inc tick) t (doIntent t p inc tick) := by
  have hg := okS_of ht
  have hl := hg.len
  refine ACalls.ev Tryz.f200 mx Tryz.func200 (by kernel_rfl) rfl ?_ <;> (refine goS ?_ <;> repeat (intro _ <;> refine goS ?_))
  repeat' (first
    | ((refine bnS (fun hr h => ?_) (fun hr h => ?_) <;> first | (exact False.elim h) | ((refine goS ?_ <;> repeat (intro _ <;> refine goS ?_)))))
    | (refine last_h hl rfl ?_ <;> (refine goS ?_ <;> repeat (intro _ <;> refine goS ?_))))
  all_goals first
    | exact ret_st (r' := (7, default)) (by simp [doIntent, *]) rfl rfl rfl rfl
    | exact ret_st (r' := (13, default)) (by simp [doIntent, *]) rfl rfl rfl rfl
    | skip
  all_goals (refine HCall.neu (winKeep_n t.starts p.window tick hp.2.1 hg hk) ?_ <;> (refine goS ?_ <;> repeat (intro _ <;> refine goS ?_)))
  all_goals
    have hd : doIntent t p inc tick = (0, ⟨1, inc, t.pid, t.nonce, 0, t.until_, t.code, lastN (keepS t.starts p.window tick) 7 ++ [tick]⟩) := by unfold doIntent; rw [if_neg (by omega), if_neg (by omega)]
    have hq := keepS_len t.starts p.window tick
    rw [hd]
    clear hd
    generalize keepS t.starts p.window tick = Q at hq ⊢
    have em : max 0 (IntKind.i64.wrap ((Q.length : Int) - 7)) = ((Q.length - 7 : Nat) : Int) := by rw [wrap_id (by omega) (by omega)]; omega
    rw [em]
    refine And.intro ⟨by omega, by omega, by omega⟩ ?_ <;> (refine goS ?_ <;> repeat (intro _ <;> refine goS ?_))
    refine onB_f (ble_no (by first | omega | (simp; done) | (simp; omega))) ?_ <;> (refine goS ?_ <;> repeat (intro _ <;> refine goS ?_))
    refine And.intro ⟨(by first | omega | (simp; done) | (simp; omega)), by show _ * 8 ≤ _; first | omega | (simp; done) | (simp; omega)⟩ ?_ <;> (refine goS ?_ <;> repeat (intro _ <;> refine goS ?_))
    have hrows : ((((rowsZ Q).map fun r => r.map (shA 2)).drop (0 + ((Q.length - 7 : Nat) : Int).toNat)).take (((Q.length : Int) - ((Q.length - 7 : Nat) : Int)).toNat) ++ [[I tick]] : List (List AV)) = rowsZ (lastN Q 7 ++ [tick]) := by
      rw [rowsZ_shA, List.take_of_length_le (by first | omega | (simp; done) | (simp; omega))]
      simp [rowsZ, lastN]
    exact ret_stz (fun i => Nat.beq i 4) rfl rfl rfl rfl ⟨⟨rfl, _, rfl, .inr ⟨rfl, rfl, rfl, fzRows1 ⟨rfl, rfl, rfl, rfl, rfl, rfl, rfl, frz_ints rfl (congrArg (fun r => some (E.Blk.mk 1 r none)) hrows) (show _ = (lastN Q 7 ++ [tick]).length by simp [lastN]; try omega), trivial⟩⟩⟩, trivial⟩
theorem taskIntent_p (t : Task) (p : Policy) (inc tick : Int) (hs : 0 ≤ t.state) : Pure Tryz.prog 166 [t.av, p.av, I inc, I tick] (resT (intentT t p inc tick)) := by
  refine Pure.ev Tryz.f166 mx Tryz.func166 (by kernel_rfl) rfl rfl rfl ?_ <;> (refine goS ?_ <;> repeat (intro _ <;> refine goS ?_))
  (first | refine Pure.call (changeS_p t hs inc tick _ p _ _ _ (intentChk_p p inc tick) fun h1 h2 => (by by_cases c : p.ok ∧ inR inc 1 mT ∧ inR tick 0 mT; exact intentStep t p inc tick h1 c.1 c.2.1 c.2.2; rw [if_neg c] at h2; cases h2)) ?_ | refine HCall.pure (changeS_p t hs inc tick _ p _ _ _ (intentChk_p p inc tick) fun h1 h2 => (by by_cases c : p.ok ∧ inR inc 1 mT ∧ inR tick 0 mT; exact intentStep t p inc tick h1 c.1 c.2.1 c.2.2; rw [if_neg c] at h2; cases h2)) ?_) <;> (refine goS ?_ <;> repeat (intro _ <;> refine goS ?_))
  exact ret_now _ rfl
theorem dlyN_le (p : Policy) (hp : p.ok) : ∀ j, 1 ≤ dlyN p j ∧ dlyN p j ≤ p.most
  | 0 => by have := hp.2.2.2; unfold inR at this; exact ⟨this.1, this.2⟩
  | j + 1 => by
    have := dlyN_le p hp j
    unfold dlyN
    omega
theorem dlyN_sat (p : Policy) (hp : p.ok) {j : Nat} (h : dlyN p j = p.most) : ∀ d, dlyN p (j + d) = p.most
  | 0 => h
  | d + 1 => by
    have := dlyN_sat p hp h d
    have h2 := dlyN_le p hp j
    show min (2 * dlyN p (j + d)) p.most = p.most
    rw [this]; omega
theorem ref11After_p (p : Policy) (n : Nat) (hp : p.ok) (hn : n ≤ 8) : Pure Tryz.prog 216 [p.av, I n] (.tup [I (dlyS p n), I 0]) := by
  have hm := hp.2.2.1
  unfold inR at hm
  refine Pure.ev Tryz.f216 mx Tryz.func216 (by kernel_rfl) rfl rfl rfl ?_ <;> (refine goS ?_ <;> repeat (intro _ <;> refine goS ?_))
  (first | refine Pure.call (check11_p p) ?_ | refine HCall.pure (check11_p p) ?_) <;> (refine goS ?_ <;> repeat (intro _ <;> refine goS ?_))
  rw [eUn_y hp]
  (refine goS ?_ <;> repeat (intro _ <;> refine goS ?_))
  refine loop_st (S := Nat) (fun j => [(1, I n), (2, .hptr 0 5 0 0), (7, I (dlyN p j)), (8, I ((j + 1 : Nat) : Int))]) (fun _ => ⟨1, [(0, some ⟨5, [p.fv.map FV.up], none⟩)]⟩)
    (fun j => j + 1 ≤ max n 1) (fun j => 10 - j) 0 (Wk.cut rfl ⟨⟨rfl, rfl⟩, ⟨rfl, rfl⟩, ⟨rfl, rfl⟩, ⟨rfl, rfl⟩, trivial⟩ ⟨⟨rfl, rfl, row1 rfl, nofun⟩, trivial⟩) (by omega) ?_
  intro j hj
  have hd := dlyN_le p hp j
  (refine goS ?_ <;> repeat (intro _ <;> refine goS ?_))
  repeat' ((refine bnS (fun hr h => ?_) (fun hr h => ?_) <;> first | (exact False.elim h) | ((refine goS ?_ <;> repeat (intro _ <;> refine goS ?_)))))
  · rw [wrap_id (n := 2 * dlyN p j) (by omega) (by omega)]
    (refine goS ?_ <;> repeat (intro _ <;> refine goS ?_))
    exact ⟨j + 1, by omega, by omega, Wk.cut rfl ⟨⟨rfl, rfl⟩, ⟨rfl, rfl⟩, ⟨rfl, rfl⟩, ⟨congrArg I (wrapS (by omega)), rfl⟩, trivial⟩ ⟨⟨rfl, rfl, row1 rfl, nofun⟩, trivial⟩⟩
  · refine ret_now _ (congrArg (fun z => AV.tup [I z, I 0]) ?_)
    have := dlyN_sat p hp (j := j) (by omega) (n - 1 - j)
    unfold dlyS
    rw [show j + (n - 1 - j) = n - 1 by omega] at this
    omega
  · exact ret_now _ (congrArg (fun z => AV.tup [I (dlyN p z), I 0]) (by omega))
theorem cntS_le (l : List Int) (w t : Int) : cntS l w t ≤ l.length := List.length_filter_le _ _
theorem dlyS_le (p : Policy) (hp : p.ok) (n : Nat) : 1 ≤ dlyS p n ∧ dlyS p n ≤ mT := by
  have := dlyN_le p hp (n - 1)
  have h := hp.2.2.1
  unfold inR at h; unfold dlyS mT
  omega
abbrev argE (p : Policy) (stop : Bool) (code tick : Int) : AV := .agg [B p.always, I p.limit, I p.window, I p.base, I p.most, B stop, I code, I tick]
theorem exitChk_p (p : Policy) (stop : Bool) (code tick : Int) : Pure Tryz.prog 210 [argE p stop code tick] (I (if p.ok ∧ inR tick 0 mT then 0 else 3)) := by
  refine Pure.ev Tryz.f210 mx Tryz.func210 (by kernel_rfl) rfl rfl rfl ?_ <;> (refine goS ?_ <;> repeat (intro _ <;> refine goS ?_))
  (first | refine Pure.call (delay_p p) ?_ | refine HCall.pure (delay_p p) ?_) <;> (refine goS ?_ <;> repeat (intro _ <;> refine goS ?_))
  by_cases hp : p.ok
  · rw [eUn_y hp]
    (refine goS ?_ <;> repeat (intro _ <;> refine goS ?_))
    (first | refine Pure.call (in_p _ _ _) ?_ | refine HCall.pure (in_p _ _ _) ?_) <;> (refine goS ?_ <;> repeat (intro _ <;> refine goS ?_))
    (first | refine Pure.call (ranged_p _) ?_ | refine HCall.pure (ranged_p _) ?_) <;> (refine goS ?_ <;> repeat (intro _ <;> refine goS ?_))
    exact ret_now _ (congrArg I (ite_eqv (by simp [inR, mT, hp])))
  · rw [eUn_n hp]
    (refine goS ?_ <;> repeat (intro _ <;> refine goS ?_))
    exact ret_now _ (congrArg I (by rw [if_neg fun h => hp h.1]))
/-- What delay.After does. -/
abbrev AfterP (f : FuncId) : Prop := ∀ (p : Policy) (n : Nat), p.ok → n ≤ 8 → E.Pure Tryz.prog f [p.av, I n] (.tup [I (dlyS p n), I 0])
set_option maxHeartbeats 4000000 in
theorem endedStep (t : Task) (p : Policy) (stop : Bool) (code tick : Int) (hs : 0 ≤ t.state) (hA : AfterP 224) (ht : errT t = 0) (hp : p.ok) (hk : inR tick 0 mT) : StepT 211 (argE p stop code tick) t (doExit t p stop code tick) := by
  have hg := okS_of ht
  have hl := hg.len
  have hn := cntS_le t.starts p.window tick
  have hd := dlyS_le p hp (cntS t.starts p.window tick)
  have hk' := hk
  unfold inR at hk'
  have ew : IntKind.i64.wrap (tick + dlyS p (cntS t.starts p.window tick)) = tick + dlyS p (cntS t.starts p.window tick) := wrap_id (by unfold mT at *; omega) (by unfold mT at *; omega)
  have hw := winCount_p t.starts p.window tick hp.2.1 hg hk
  have hA := hA p (cntS t.starts p.window tick) hp (by omega)
  obtain ⟨st, inc, pid, nonce, due, unt, cd, starts⟩ := t
  obtain ⟨al, lim, win, base, most⟩ := p
  dsimp only at hg hl hn hd ew hs hw hA
  clear hk hp hk' ht
  rcases states hs with rfl | rfl | rfl | rfl | rfl | rfl | rfl | rfl | h7 <;> clear hs <;> cases stop <;> cases al
  all_goals
    refine ACalls.ev Tryz.f211 mx Tryz.func211 (by kernel_rfl) rfl ?_ <;> (refine goS ?_ <;> repeat (intro _ <;> refine goS ?_))
    repeat' (first
      | ((refine bnS (fun hr h => ?_) (fun hr h => ?_) <;> first | (exfalso; omega) | ((refine goS ?_ <;> repeat (intro _ <;> refine goS ?_)))))
      | (refine last_h hl rfl ?_ <;> (refine goS ?_ <;> repeat (intro _ <;> refine goS ?_)))
      | ((first | refine Pure.call (hw) ?_ | refine HCall.pure (hw) ?_) <;> (refine goS ?_ <;> repeat (intro _ <;> refine goS ?_)))
      | ((first | refine Pure.call (hA) ?_ | refine HCall.pure (hA) ?_) <;> (refine goS ?_ <;> repeat (intro _ <;> refine goS ?_))))
  all_goals first
    | exact ret_st (r' := (7, default)) (by unfold doExit; rw [if_pos (by dsimp only; omega)]) rfl rfl rfl rfl
    | exact ret_st (r' := (13, default)) (by unfold doExit; rw [if_neg (by dsimp only; omega), if_pos (by dsimp only; omega)]) rfl rfl rfl rfl
    | exact ret_st (r' := (0, ⟨6, inc, 0, 0, due, 0, code, starts⟩)) (by unfold doExit; rw [if_neg (by dsimp only; omega), if_neg (by dsimp only; omega), if_pos (by simp [deadT, *])]) rfl rfl rfl rfl
    | exact ret_st (r' := (0, ⟨7, inc, 0, 0, due, 0, code, starts⟩)) (by unfold doExit; rw [if_neg (by dsimp only; omega), if_neg (by dsimp only; omega), if_neg (by simp [deadT, *]), if_pos (by dsimp only; omega)]) rfl rfl rfl rfl
    | exact ret_st (r' := (0, ⟨3, inc, 0, 0, IntKind.i64.wrap (tick + dlyS ⟨_, lim, win, base, most⟩ (cntS starts win tick)), 0, code, starts⟩)) (by unfold doExit; rw [if_neg (by dsimp only; omega), if_neg (by dsimp only; omega), if_neg (by simp [deadT, *]), if_neg (by dsimp only; omega), ew]) rfl rfl rfl rfl
  
theorem taskExit_q (t : Task) (p : Policy) (stop : Bool) (code tick : Int) (hA : AfterP 224) (hs : 0 ≤ t.state) : Pure Tryz.prog 170 [t.av, p.av, B stop, I code, I tick] (resT (exitT t p stop code tick)) := by
  refine Pure.ev Tryz.f170 mx Tryz.func170 (by kernel_rfl) rfl rfl rfl ?_ <;> (refine goS ?_ <;> repeat (intro _ <;> refine goS ?_))
  (first | refine Pure.call (changeE_p t hs code tick _ p stop _ _ _ (exitChk_p p stop code tick) fun h1 h2 => (by by_cases c : p.ok ∧ inR tick 0 mT; exact endedStep t p stop code tick hs hA h1 c.1 c.2; rw [if_neg c] at h2; cases h2)) ?_ | refine HCall.pure (changeE_p t hs code tick _ p stop _ _ _ (exitChk_p p stop code tick) fun h1 h2 => (by by_cases c : p.ok ∧ inR tick 0 mT; exact endedStep t p stop code tick hs hA h1 c.1 c.2; rw [if_neg c] at h2; cases h2)) ?_) <;> (refine goS ?_ <;> repeat (intro _ <;> refine goS ?_))
  exact ret_now _ rfl
end Go.Proofs.YtdblhmpcilihnaaGreat
