/- What an agent sees of a task: the program's and the reference's. -/
import Derived.Test.YtdblhmpcilihnaaGreatBoot1
import Derived.Test.YtdblhmpcilihnaaGreatEP
namespace Go.Proofs.YtdblhmpcilihnaaGreat
open Go.RowKit E
set_option maxRecDepth 100000
set_option linter.unusedVariables false
set_option linter.unusedSimpArgs false
def lookStep (o : Token) (k : Look) (p : Proc) : Look :=
  if p.token.alloc ≠ o.alloc ∨ p.token.task ≠ o.task then k
  else if p.token.inc ≠ o.inc then { k with other := k.other || p.alive }
  else if o.inc ≠ 0 ∧ k.has = false then { k with has := true, proc := p } else k
def lookL (o : Token) (k : Look) (l : List Proc) : Look := l.foldl (lookStep o) k
def look0 : Look := ⟨0, false, false, false, false, ⟨0, 0, ⟨0, 0, 0⟩, false, false, false, 0⟩, false⟩
def ownT (s : State) (a t : Int) : Token := ⟨(s.allocs.getD a.toNat default).spec.id, t, ((s.allocs.getD a.toNat default).tasks.getD t.toNat default).inc⟩
theorem lookL_succ {o : Token} {k : Look} {l : List Proc} {j : Nat} (hj : j < l.length) : lookL o k (l.take (j + 1)) = lookStep o (lookL o k (l.take j)) (l.getD j default) := by
  unfold lookL
  rw [takeS hj, List.foldl_append]; rfl
theorem look_other {o : Token} {k : Look} {p : Proc} (h : p.token.alloc ≠ o.alloc ∨ p.token.task ≠ o.task) : lookStep o k p = k := if_pos h
theorem look_inc {o : Token} {k : Look} {p : Proc} (h1 : p.token.alloc = o.alloc) (h2 : p.token.task = o.task) (h3 : p.token.inc ≠ o.inc) : lookStep o k p = { k with other := k.other || p.alive } := by
  unfold lookStep
  rw [if_neg (fun h => h.elim (fun h => h h1) (fun h => h h2)), if_pos h3]
theorem look_has {o : Token} {k : Look} {p : Proc} (h1 : p.token.alloc = o.alloc) (h2 : p.token.task = o.task) (h3 : p.token.inc = o.inc) (h4 : o.inc ≠ 0) (h5 : k.has = false) : lookStep o k p = { k with has := true, proc := p } := by
  unfold lookStep
  rw [if_neg (fun h => h.elim (fun h => h h1) (fun h => h h2)), if_neg (not_not_intro h3), if_pos ⟨h4, h5⟩]
theorem look_no {o : Token} {k : Look} {p : Proc} (h1 : p.token.alloc = o.alloc) (h2 : p.token.task = o.task) (h3 : p.token.inc = o.inc) (h4 : ¬ (o.inc ≠ 0 ∧ k.has = false)) : lookStep o k p = k := by
  unfold lookStep
  rw [if_neg (fun h => h.elim (fun h => h h1) (fun h => h h2)), if_neg (not_not_intro h3), if_neg h4]
def lookK (c : Config) (s : State) (sick : Bool) (now : Int) : Look := ⟨now, ovrB c s.ack now, fenB c s.ack now, sick, false, ⟨0, 0, ⟨0, 0, 0⟩, false, false, false, 0⟩, false⟩
noncomputable def lookE (c : Config) (s : State) (a t now : Int) : Int := if stE c s ≠ 0 then stE c s else if thereB s a t = true ∧ inR now 0 1099511627776 then 0 else 3
noncomputable def lookV (c : Config) (s : State) (a t : Int) (sick : Bool) (now : Int) (l : List Proc) : Look := if lookE c s a t now = 0 then lookL (ownT s a t) (lookK c s sick now) l else look0
set_option maxHeartbeats 4000000 in
theorem planLook_ok (c : Config) (s : State) (a t : Int) (sick : Bool) (now : Int) (l : List Proc) (hf : s.few) (hw : s.wfS) (hE : stE c s = 0) (hT : thereB s a t = true) (hn : inR now 0 1099511627776) :
    Pure Tryz.prog 44 [c.av, s.av, I a, I t, B sick, I now, slPr l] (.tup [(lookL (ownT s a t) (lookK c s sick now) l).av, I 0]) := by
  obtain ⟨hc, hs⟩ := stE0 hE
  have hC := stCheck_p c s hf hw
  have hth := there_p s a t
  have hn' := hn
  unfold inR at hn'
  rw [hE] at hC
  rw [hT] at hth
  have hT' := of_decide_eq_true (show decide ((0 ≤ a ∧ a < s.allocs.length) ∧ 0 ≤ t ∧ t < (s.allocs.getD a.toNat default).tasks.length) = true from hT)
  obtain ⟨⟨ha1, ha2⟩, ht1, ht2⟩ := hT'
  refine Pure.ev Tryz.f44 mx Tryz.func44 (by kernel_rfl) rfl rfl rfl ?_ <;> (refine goS ?_ <;> repeat (intro _ <;> refine goS ?_))
  (first | refine Pure.call (hC) ?_ | refine HCall.pure (hC) ?_) <;> (refine goS ?_ <;> repeat (intro _ <;> refine goS ?_))
  (first | refine Pure.call (hth) ?_ | refine HCall.pure (hth) ?_) <;> (refine goS ?_ <;> repeat (intro _ <;> refine goS ?_))
  repeat' ((refine bnS (fun hr h => ?_) (fun hr h => ?_) <;> first | (exfalso; omega) | ((refine goS ?_ <;> repeat (intro _ <;> refine goS ?_)))))
  (first | refine Pure.call (over_p c s.ack now hc hs.2.2.2.1 hn) ?_ | refine HCall.pure (over_p c s.ack now hc hs.2.2.2.1 hn) ?_) <;> (refine goS ?_ <;> repeat (intro _ <;> refine goS ?_))
  (first | refine Pure.call (fenced_p c s.ack now hc hs.2.2.2.1 hn) ?_ | refine HCall.pure (fenced_p c s.ack now hc hs.2.2.2.1 hn) ?_) <;> (refine goS ?_ <;> repeat (intro _ <;> refine goS ?_))
  refine loop_st (S := Nat × Look) (fun z => [(14, .hptr 2 15 0 0), (17, .hptr 3 15 0 0), (18, .hptr 4 3 0 0), (82, slPr l), (83, I l.length), (84, I z.1)])
    (fun z => ⟨5, [(4, some ⟨3, [(ownT s a t).fv.map FV.up], none⟩), (3, some ⟨15, [z.2.fv.map FV.up], none⟩), (2, some ⟨15, [look0.fv.map FV.up], none⟩)]⟩) (fun z => z.1 ≤ l.length ∧ z.2 = lookL (ownT s a t) (lookK c s sick now) (l.take z.1)) (fun z => l.length - z.1) (0, lookK c s sick now)
    (Wk.cut rfl ⟨⟨rfl, rfl⟩, ⟨rfl, rfl⟩, ⟨rfl, rfl⟩, ⟨rfl, rfl⟩, ⟨rfl, rfl⟩, ⟨rfl, rfl⟩, trivial⟩ ⟨⟨rfl, rfl, row1 rfl, nofun⟩, ⟨rfl, rfl, row1 rfl, nofun⟩, ⟨rfl, rfl, row1 rfl, nofun⟩, trivial⟩) ⟨Nat.zero_le _, rfl⟩ ?_
  rintro ⟨j, K⟩ ⟨hj, hK⟩
  dsimp only at hj hK
  clear hC hth hE
  generalize hO : ownT s a t = o at hK ⊢
  by_cases hj2 : j < l.length
  case neg =>
    rw [List.take_of_length_le (by omega)] at hK
    rw [← hK]
    (refine goS ?_ <;> repeat (intro _ <;> refine goS ?_))
    repeat' ((refine bnS (fun hr h => ?_) (fun hr h => ?_) <;> first | (exfalso; omega) | ((refine goS ?_ <;> repeat (intro _ <;> refine goS ?_)))))
    exact ret_now _ rfl
  have hs1 := lookL_succ (o := o) (k := lookK c s sick now) hj2
  rw [← hK] at hs1
  clear hK
  obtain ⟨kn, ke, kf, ks, kh, kp, ko⟩ := K
  cases kh <;> cases ko
  all_goals (refine goS ?_ <;> repeat (intro _ <;> refine goS ?_))
  all_goals (repeat' ((refine bnS (fun hr h => ?_) (fun hr h => ?_) <;> first | (exfalso; omega) | ((refine goS ?_ <;> repeat (intro _ <;> refine goS ?_))))))
  all_goals (try simp only [toNat_nat] at *)
  all_goals first
    | exact ⟨(j + 1, ⟨kn, ke, kf, ks, true, kp, true⟩), by dsimp only; omega, ⟨by dsimp only; omega, by dsimp only; rw [hs1, look_other (by omega)]⟩, Wk.cut rfl ⟨⟨rfl, rfl⟩, ⟨rfl, rfl⟩, ⟨rfl, rfl⟩, ⟨rfl, rfl⟩, ⟨rfl, rfl⟩, ⟨by simp only [← wrapS (show j < 9223372036854775807 by omega)]; rfl, rfl⟩, trivial⟩ ⟨⟨rfl, rfl, row1 rfl, nofun⟩, ⟨rfl, rfl, row1 rfl, nofun⟩, ⟨rfl, rfl, row1 rfl, nofun⟩, trivial⟩⟩
    | exact ⟨(j + 1, ⟨kn, ke, kf, ks, true, kp, true⟩), by dsimp only; omega, ⟨by dsimp only; omega, by dsimp only; rw [hs1, look_no (by omega) (by omega) (by omega) (by simp_all)]⟩, Wk.cut rfl ⟨⟨rfl, rfl⟩, ⟨rfl, rfl⟩, ⟨rfl, rfl⟩, ⟨rfl, rfl⟩, ⟨rfl, rfl⟩, ⟨by simp only [← wrapS (show j < 9223372036854775807 by omega)]; rfl, rfl⟩, trivial⟩ ⟨⟨rfl, rfl, row1 rfl, nofun⟩, ⟨rfl, rfl, row1 rfl, nofun⟩, ⟨rfl, rfl, row1 rfl, nofun⟩, trivial⟩⟩
    | exact ⟨(j + 1, ⟨kn, ke, kf, ks, true, kp, (true)⟩), by dsimp only; omega, ⟨by dsimp only; omega, by dsimp only; rw [hs1, look_inc (by omega) (by omega) (by omega)]; simp_all⟩, Wk.cut rfl ⟨⟨rfl, rfl⟩, ⟨rfl, rfl⟩, ⟨rfl, rfl⟩, ⟨rfl, rfl⟩, ⟨rfl, rfl⟩, ⟨by simp only [← wrapS (show j < 9223372036854775807 by omega)]; rfl, rfl⟩, trivial⟩ ⟨⟨rfl, rfl, row1 rfl, nofun⟩, ⟨rfl, rfl, row1 rfl, nofun⟩, ⟨rfl, rfl, row1 rfl, nofun⟩, trivial⟩⟩
    | exact ⟨(j + 1, ⟨kn, ke, kf, ks, true, kp, (false)⟩), by dsimp only; omega, ⟨by dsimp only; omega, by dsimp only; rw [hs1, look_inc (by omega) (by omega) (by omega)]; simp_all⟩, Wk.cut rfl ⟨⟨rfl, rfl⟩, ⟨rfl, rfl⟩, ⟨rfl, rfl⟩, ⟨rfl, rfl⟩, ⟨rfl, rfl⟩, ⟨by simp only [← wrapS (show j < 9223372036854775807 by omega)]; rfl, rfl⟩, trivial⟩ ⟨⟨rfl, rfl, row1 rfl, nofun⟩, ⟨rfl, rfl, row1 rfl, nofun⟩, ⟨rfl, rfl, row1 rfl, nofun⟩, trivial⟩⟩
    | exact ⟨(j + 1, ⟨kn, ke, kf, ks, true, kp, (l.getD j default |>.alive)⟩), by dsimp only; omega, ⟨by dsimp only; omega, by dsimp only; rw [hs1, look_inc (by omega) (by omega) (by omega)]; simp_all⟩, Wk.cut rfl ⟨⟨rfl, rfl⟩, ⟨rfl, rfl⟩, ⟨rfl, rfl⟩, ⟨rfl, rfl⟩, ⟨rfl, rfl⟩, ⟨by simp only [← wrapS (show j < 9223372036854775807 by omega)]; rfl, rfl⟩, trivial⟩ ⟨⟨rfl, rfl, row1 rfl, nofun⟩, ⟨rfl, rfl, row1 rfl, nofun⟩, ⟨rfl, rfl, row1 rfl, nofun⟩, trivial⟩⟩
    | exact ⟨(j + 1, ⟨kn, ke, kf, ks, true, kp, false⟩), by dsimp only; omega, ⟨by dsimp only; omega, by dsimp only; rw [hs1, look_other (by omega)]⟩, Wk.cut rfl ⟨⟨rfl, rfl⟩, ⟨rfl, rfl⟩, ⟨rfl, rfl⟩, ⟨rfl, rfl⟩, ⟨rfl, rfl⟩, ⟨by simp only [← wrapS (show j < 9223372036854775807 by omega)]; rfl, rfl⟩, trivial⟩ ⟨⟨rfl, rfl, row1 rfl, nofun⟩, ⟨rfl, rfl, row1 rfl, nofun⟩, ⟨rfl, rfl, row1 rfl, nofun⟩, trivial⟩⟩
    | exact ⟨(j + 1, ⟨kn, ke, kf, ks, true, kp, false⟩), by dsimp only; omega, ⟨by dsimp only; omega, by dsimp only; rw [hs1, look_no (by omega) (by omega) (by omega) (by simp_all)]⟩, Wk.cut rfl ⟨⟨rfl, rfl⟩, ⟨rfl, rfl⟩, ⟨rfl, rfl⟩, ⟨rfl, rfl⟩, ⟨rfl, rfl⟩, ⟨by simp only [← wrapS (show j < 9223372036854775807 by omega)]; rfl, rfl⟩, trivial⟩ ⟨⟨rfl, rfl, row1 rfl, nofun⟩, ⟨rfl, rfl, row1 rfl, nofun⟩, ⟨rfl, rfl, row1 rfl, nofun⟩, trivial⟩⟩
    | exact ⟨(j + 1, ⟨kn, ke, kf, ks, true, kp, (true)⟩), by dsimp only; omega, ⟨by dsimp only; omega, by dsimp only; rw [hs1, look_inc (by omega) (by omega) (by omega)]; simp_all⟩, Wk.cut rfl ⟨⟨rfl, rfl⟩, ⟨rfl, rfl⟩, ⟨rfl, rfl⟩, ⟨rfl, rfl⟩, ⟨rfl, rfl⟩, ⟨by simp only [← wrapS (show j < 9223372036854775807 by omega)]; rfl, rfl⟩, trivial⟩ ⟨⟨rfl, rfl, row1 rfl, nofun⟩, ⟨rfl, rfl, row1 rfl, nofun⟩, ⟨rfl, rfl, row1 rfl, nofun⟩, trivial⟩⟩
    | exact ⟨(j + 1, ⟨kn, ke, kf, ks, true, kp, (false)⟩), by dsimp only; omega, ⟨by dsimp only; omega, by dsimp only; rw [hs1, look_inc (by omega) (by omega) (by omega)]; simp_all⟩, Wk.cut rfl ⟨⟨rfl, rfl⟩, ⟨rfl, rfl⟩, ⟨rfl, rfl⟩, ⟨rfl, rfl⟩, ⟨rfl, rfl⟩, ⟨by simp only [← wrapS (show j < 9223372036854775807 by omega)]; rfl, rfl⟩, trivial⟩ ⟨⟨rfl, rfl, row1 rfl, nofun⟩, ⟨rfl, rfl, row1 rfl, nofun⟩, ⟨rfl, rfl, row1 rfl, nofun⟩, trivial⟩⟩
    | exact ⟨(j + 1, ⟨kn, ke, kf, ks, true, kp, (l.getD j default |>.alive)⟩), by dsimp only; omega, ⟨by dsimp only; omega, by dsimp only; rw [hs1, look_inc (by omega) (by omega) (by omega)]; simp_all⟩, Wk.cut rfl ⟨⟨rfl, rfl⟩, ⟨rfl, rfl⟩, ⟨rfl, rfl⟩, ⟨rfl, rfl⟩, ⟨rfl, rfl⟩, ⟨by simp only [← wrapS (show j < 9223372036854775807 by omega)]; rfl, rfl⟩, trivial⟩ ⟨⟨rfl, rfl, row1 rfl, nofun⟩, ⟨rfl, rfl, row1 rfl, nofun⟩, ⟨rfl, rfl, row1 rfl, nofun⟩, trivial⟩⟩
    | exact ⟨(j + 1, ⟨kn, ke, kf, ks, false, kp, true⟩), by dsimp only; omega, ⟨by dsimp only; omega, by dsimp only; rw [hs1, look_other (by omega)]⟩, Wk.cut rfl ⟨⟨rfl, rfl⟩, ⟨rfl, rfl⟩, ⟨rfl, rfl⟩, ⟨rfl, rfl⟩, ⟨rfl, rfl⟩, ⟨by simp only [← wrapS (show j < 9223372036854775807 by omega)]; rfl, rfl⟩, trivial⟩ ⟨⟨rfl, rfl, row1 rfl, nofun⟩, ⟨rfl, rfl, row1 rfl, nofun⟩, ⟨rfl, rfl, row1 rfl, nofun⟩, trivial⟩⟩
    | exact ⟨(j + 1, ⟨kn, ke, kf, ks, false, kp, true⟩), by dsimp only; omega, ⟨by dsimp only; omega, by dsimp only; rw [hs1, look_no (by omega) (by omega) (by omega) (by simp_all)]⟩, Wk.cut rfl ⟨⟨rfl, rfl⟩, ⟨rfl, rfl⟩, ⟨rfl, rfl⟩, ⟨rfl, rfl⟩, ⟨rfl, rfl⟩, ⟨by simp only [← wrapS (show j < 9223372036854775807 by omega)]; rfl, rfl⟩, trivial⟩ ⟨⟨rfl, rfl, row1 rfl, nofun⟩, ⟨rfl, rfl, row1 rfl, nofun⟩, ⟨rfl, rfl, row1 rfl, nofun⟩, trivial⟩⟩
    | exact ⟨(j + 1, ⟨kn, ke, kf, ks, false, kp, (true)⟩), by dsimp only; omega, ⟨by dsimp only; omega, by dsimp only; rw [hs1, look_inc (by omega) (by omega) (by omega)]; simp_all⟩, Wk.cut rfl ⟨⟨rfl, rfl⟩, ⟨rfl, rfl⟩, ⟨rfl, rfl⟩, ⟨rfl, rfl⟩, ⟨rfl, rfl⟩, ⟨by simp only [← wrapS (show j < 9223372036854775807 by omega)]; rfl, rfl⟩, trivial⟩ ⟨⟨rfl, rfl, row1 rfl, nofun⟩, ⟨rfl, rfl, row1 rfl, nofun⟩, ⟨rfl, rfl, row1 rfl, nofun⟩, trivial⟩⟩
    | exact ⟨(j + 1, ⟨kn, ke, kf, ks, false, kp, (false)⟩), by dsimp only; omega, ⟨by dsimp only; omega, by dsimp only; rw [hs1, look_inc (by omega) (by omega) (by omega)]; simp_all⟩, Wk.cut rfl ⟨⟨rfl, rfl⟩, ⟨rfl, rfl⟩, ⟨rfl, rfl⟩, ⟨rfl, rfl⟩, ⟨rfl, rfl⟩, ⟨by simp only [← wrapS (show j < 9223372036854775807 by omega)]; rfl, rfl⟩, trivial⟩ ⟨⟨rfl, rfl, row1 rfl, nofun⟩, ⟨rfl, rfl, row1 rfl, nofun⟩, ⟨rfl, rfl, row1 rfl, nofun⟩, trivial⟩⟩
    | exact ⟨(j + 1, ⟨kn, ke, kf, ks, false, kp, (l.getD j default |>.alive)⟩), by dsimp only; omega, ⟨by dsimp only; omega, by dsimp only; rw [hs1, look_inc (by omega) (by omega) (by omega)]; simp_all⟩, Wk.cut rfl ⟨⟨rfl, rfl⟩, ⟨rfl, rfl⟩, ⟨rfl, rfl⟩, ⟨rfl, rfl⟩, ⟨rfl, rfl⟩, ⟨by simp only [← wrapS (show j < 9223372036854775807 by omega)]; rfl, rfl⟩, trivial⟩ ⟨⟨rfl, rfl, row1 rfl, nofun⟩, ⟨rfl, rfl, row1 rfl, nofun⟩, ⟨rfl, rfl, row1 rfl, nofun⟩, trivial⟩⟩
    | exact ⟨(j + 1, ⟨kn, ke, kf, ks, false, kp, false⟩), by dsimp only; omega, ⟨by dsimp only; omega, by dsimp only; rw [hs1, look_other (by omega)]⟩, Wk.cut rfl ⟨⟨rfl, rfl⟩, ⟨rfl, rfl⟩, ⟨rfl, rfl⟩, ⟨rfl, rfl⟩, ⟨rfl, rfl⟩, ⟨by simp only [← wrapS (show j < 9223372036854775807 by omega)]; rfl, rfl⟩, trivial⟩ ⟨⟨rfl, rfl, row1 rfl, nofun⟩, ⟨rfl, rfl, row1 rfl, nofun⟩, ⟨rfl, rfl, row1 rfl, nofun⟩, trivial⟩⟩
    | exact ⟨(j + 1, ⟨kn, ke, kf, ks, false, kp, false⟩), by dsimp only; omega, ⟨by dsimp only; omega, by dsimp only; rw [hs1, look_no (by omega) (by omega) (by omega) (by simp_all)]⟩, Wk.cut rfl ⟨⟨rfl, rfl⟩, ⟨rfl, rfl⟩, ⟨rfl, rfl⟩, ⟨rfl, rfl⟩, ⟨rfl, rfl⟩, ⟨by simp only [← wrapS (show j < 9223372036854775807 by omega)]; rfl, rfl⟩, trivial⟩ ⟨⟨rfl, rfl, row1 rfl, nofun⟩, ⟨rfl, rfl, row1 rfl, nofun⟩, ⟨rfl, rfl, row1 rfl, nofun⟩, trivial⟩⟩
    | exact ⟨(j + 1, ⟨kn, ke, kf, ks, false, kp, (true)⟩), by dsimp only; omega, ⟨by dsimp only; omega, by dsimp only; rw [hs1, look_inc (by omega) (by omega) (by omega)]; simp_all⟩, Wk.cut rfl ⟨⟨rfl, rfl⟩, ⟨rfl, rfl⟩, ⟨rfl, rfl⟩, ⟨rfl, rfl⟩, ⟨rfl, rfl⟩, ⟨by simp only [← wrapS (show j < 9223372036854775807 by omega)]; rfl, rfl⟩, trivial⟩ ⟨⟨rfl, rfl, row1 rfl, nofun⟩, ⟨rfl, rfl, row1 rfl, nofun⟩, ⟨rfl, rfl, row1 rfl, nofun⟩, trivial⟩⟩
    | exact ⟨(j + 1, ⟨kn, ke, kf, ks, false, kp, (false)⟩), by dsimp only; omega, ⟨by dsimp only; omega, by dsimp only; rw [hs1, look_inc (by omega) (by omega) (by omega)]; simp_all⟩, Wk.cut rfl ⟨⟨rfl, rfl⟩, ⟨rfl, rfl⟩, ⟨rfl, rfl⟩, ⟨rfl, rfl⟩, ⟨rfl, rfl⟩, ⟨by simp only [← wrapS (show j < 9223372036854775807 by omega)]; rfl, rfl⟩, trivial⟩ ⟨⟨rfl, rfl, row1 rfl, nofun⟩, ⟨rfl, rfl, row1 rfl, nofun⟩, ⟨rfl, rfl, row1 rfl, nofun⟩, trivial⟩⟩
    | exact ⟨(j + 1, ⟨kn, ke, kf, ks, false, kp, (l.getD j default |>.alive)⟩), by dsimp only; omega, ⟨by dsimp only; omega, by dsimp only; rw [hs1, look_inc (by omega) (by omega) (by omega)]; simp_all⟩, Wk.cut rfl ⟨⟨rfl, rfl⟩, ⟨rfl, rfl⟩, ⟨rfl, rfl⟩, ⟨rfl, rfl⟩, ⟨rfl, rfl⟩, ⟨by simp only [← wrapS (show j < 9223372036854775807 by omega)]; rfl, rfl⟩, trivial⟩ ⟨⟨rfl, rfl, row1 rfl, nofun⟩, ⟨rfl, rfl, row1 rfl, nofun⟩, ⟨rfl, rfl, row1 rfl, nofun⟩, trivial⟩⟩
    | exact ⟨(j + 1, ⟨kn, ke, kf, ks, true, l.getD j default, true⟩), by dsimp only; omega, ⟨by dsimp only; omega, by dsimp only; rw [hs1, look_has (by omega) (by omega) (by omega) (by omega) rfl]⟩, Wk.cut rfl ⟨⟨rfl, rfl⟩, ⟨rfl, rfl⟩, ⟨rfl, rfl⟩, ⟨rfl, rfl⟩, ⟨rfl, rfl⟩, ⟨by simp only [← wrapS (show j < 9223372036854775807 by omega)]; rfl, rfl⟩, trivial⟩ ⟨⟨rfl, rfl, row1 rfl, nofun⟩, ⟨rfl, rfl, row1 rfl, nofun⟩, ⟨rfl, rfl, row1 rfl, nofun⟩, trivial⟩⟩
    | exact ⟨(j + 1, ⟨kn, ke, kf, ks, true, l.getD j default, false⟩), by dsimp only; omega, ⟨by dsimp only; omega, by dsimp only; rw [hs1, look_has (by omega) (by omega) (by omega) (by omega) rfl]⟩, Wk.cut rfl ⟨⟨rfl, rfl⟩, ⟨rfl, rfl⟩, ⟨rfl, rfl⟩, ⟨rfl, rfl⟩, ⟨rfl, rfl⟩, ⟨by simp only [← wrapS (show j < 9223372036854775807 by omega)]; rfl, rfl⟩, trivial⟩ ⟨⟨rfl, rfl, row1 rfl, nofun⟩, ⟨rfl, rfl, row1 rfl, nofun⟩, ⟨rfl, rfl, row1 rfl, nofun⟩, trivial⟩⟩
end Go.Proofs.YtdblhmpcilihnaaGreat
