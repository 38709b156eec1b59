/- What is next for a task can be applied: plain lists and numbers. -/
import Derived.Test.YtdblhmpcilihnaaGreatKK
import Derived.Test.YtdblhmpcilihnaaGreatEP
import Derived.Test.YtdblhmpcilihnaaGreatC23
import Derived.Test.YtdblhmpcilihnaaGreatNX
namespace Go.Proofs.YtdblhmpcilihnaaGreat
set_option maxRecDepth 100000
set_option linter.unusedVariables false
set_option linter.unusedSimpArgs false
theorem specE_pol {x : Spec} (h : specE x = 0) : inR x.id 0 2147483648 ∧ ∀ t ∈ x.tasks, t.policy.ok := by
  unfold specE at h
  split at h
  · omega
  split at h
  · omega
  split at h
  · omega
  split at h
  · omega
  split at h
  · omega
  rename_i h1 h2 h3 h4 h5
  exact ⟨Classical.not_not.1 h1, fun t ht => (of_z h t ht).1⟩
theorem look_facts (o : Token) : ∀ (l : List Proc) (k : Look), (lookL o k l).now = k.now ∧ (lookL o k l).expired = k.expired ∧ (lookL o k l).fenced = k.fenced ∧ ((lookL o k l).has = true → (k.has = true ∧ (lookL o k l).proc = k.proc) ∨ (lookL o k l).proc ∈ l) := by
  intro l
  induction l with
  | nil => intro k; exact ⟨rfl, rfl, rfl, fun h => .inl ⟨h, rfl⟩⟩
  | cons p l ih =>
    intro k
    have e : lookL o k (p :: l) = lookL o (lookStep o k p) l := rfl
    rw [e]
    obtain ⟨h1, h2, h3, h4⟩ := ih (lookStep o k p)
    have hs : (lookStep o k p).now = k.now ∧ (lookStep o k p).expired = k.expired ∧ (lookStep o k p).fenced = k.fenced ∧ (((lookStep o k p).has = k.has ∧ (lookStep o k p).proc = k.proc) ∨ (lookStep o k p).proc = p) := by
      unfold lookStep
      split
      · exact ⟨rfl, rfl, rfl, .inl ⟨rfl, rfl⟩⟩
      split
      · exact ⟨rfl, rfl, rfl, .inl ⟨rfl, rfl⟩⟩
      split
      · exact ⟨rfl, rfl, rfl, .inr rfl⟩
      · exact ⟨rfl, rfl, rfl, .inl ⟨rfl, rfl⟩⟩
    refine ⟨h1.trans hs.1, h2.trans hs.2.1, h3.trans hs.2.2.1, fun h => ?_⟩
    rcases h4 h with ⟨h5, h6⟩ | h5
    · rcases hs.2.2.2 with ⟨h7, h8⟩ | h7
      · exact .inl ⟨h7 ▸ h5, h6.trans h8⟩
      · exact .inr (by rw [h6, h7]; exact List.mem_cons_self ..)
    · exact .inr (List.mem_cons_of_mem _ h5)
theorem lastS_le {l : List Int} {n : Int} (h : ∀ x ∈ l, x ≤ n) (h0 : -1 ≤ n) : lastS l ≤ n := by
  unfold lastS
  rw [List.getD_eq_getElem?_getD]
  by_cases c : l.length - 1 < l.length
  · rw [List.getElem?_eq_getElem c]; exact h _ (List.getElem_mem c)
  · rw [List.getElem?_eq_none (by omega)]; exact h0
theorem turn_done {c : Config} {s : State} {i j : Nat} {r : Rec} (hE : stE c s = 0) (hi : i < s.allocs.length) (hj : j < (s.allocs.getD i default).tasks.length) (hid : r.id = (s.allocs.getD i default).spec.id) (ht : r.task = j) (hR : recE r = 0) (hk : 4 ≤ r.kind ∧ r.kind ≤ 8) (h4 : r.kind = 4 → s.next ≠ mT)
    (hz : (turnT s (s.allocs.getD i default) ((s.allocs.getD i default).tasks.getD j default) ((s.allocs.getD i default).spec.tasks.getD j default).policy r).1 = 0) :
    applyF c s r = (0, turnS s i j r (turnT s (s.allocs.getD i default) ((s.allocs.getD i default).tasks.getD j default) ((s.allocs.getD i default).spec.tasks.getD j default).policy r).2) := by
  have hs := (stE_iff.1 hE).2
  unfold applyF
  rw [if_neg (not_not_intro hE), if_neg (not_not_intro hR)]
  unfold doRec
  rw [if_neg (by omega), if_neg (by omega), if_neg (by omega), if_neg (by omega)]
  unfold doTurn
  rw [hid, find_self hs hi, if_neg (by omega)]
  dsimp only
  rw [show s.at (i : Int) = s.allocs.getD i default by unfold State.at; rw [toNat_nat], toNat_nat, ht, toNat_nat]
  rw [if_neg (fun hh => hh.elim (fun hh => by omega) fun hh => hh.elim (fun hh => by omega) fun hh => h4 hh.1 hh.2)]
  have e1 : (s.allocs.getD i default).tk (j : Int) = (s.allocs.getD i default).tasks.getD j default := by unfold Alloc.tk; rw [toNat_nat]
  have e2 : (s.allocs.getD i default).pol (j : Int) = ((s.allocs.getD i default).spec.tasks.getD j default).policy := by unfold Alloc.pol; rw [toNat_nat]
  rw [e1, e2, if_neg (not_not_intro hz)]
  rfl
theorem spec_default : (default : Spec) = zSp := rfl
theorem recE_task {k id ta ti pi no co : Int} (hk : 4 ≤ k ∧ k ≤ 8) (hid : inR id 0 2147483648) (hta : inR ta 0 3) (hti : inR ti 0 mT) (hpi : inR pi 0 mT) (hno : inR no 0 mT) (h1 : k ≠ 4 → k ≠ 8 → ti = 0) (h2 : k ≠ 5 → pi = 0 ∧ no = 0) (h3 : k ≠ 8 → co = 0) : recE ⟨k, 0, default, id, ta, ti, 0, pi, no, co⟩ = 0 := by
  have hp : Rec.pln ⟨k, 0, default, id, ta, ti, 0, pi, no, co⟩ := by
    refine ⟨fun _ => rfl, fun h => absurd (show uId k from ⟨by omega, by omega⟩) h, fun h => absurd (show uTa k from hk) h, fun h => ?_, fun _ => rfl, fun h => (h2 h).1, fun h => (h2 h).2, fun h => h3 h, fun _ => spec_default⟩
    exact h1 (fun e => h (.inr (.inl e))) (fun e => h (.inr (.inr (.inl e))))
  have hg : Rec.rng ⟨k, 0, default, id, ta, ti, 0, pi, no, co⟩ := ⟨by unfold inR mT; dsimp only; omega, hid, hta, hti, by unfold inR mT; dsimp only; omega, hpi, hno⟩
  unfold recE
  rw [if_neg (fun h => h.elim (fun h => h ⟨by show 1 ≤ k; omega, by show k ≤ 9; omega⟩) (fun h => h hp)), if_neg (not_not_intro hg), if_neg (by show k ≠ 1; omega)]
theorem plan_ok {c : Config} {s : State} {a k now : Int} {K : Look} (hG : Good c s) (hth : thereB s a k = true) (hnow : inR now 0 mT)
    (hst : ∀ x ∈ ((s.allocs.getD a.toNat default).tasks.getD k.toNat default).starts, x ≤ now) (hn : s.next < mT) (hK : K.now = now)
    (hp : K.has = true → (nextG ((s.allocs.getD a.toNat default).tasks.getD k.toNat default) K).do_ = 2 → inR K.proc.pid 0 mT ∧ inR K.proc.nonce 0 mT)
    (hb : recB s a k (nextG ((s.allocs.getD a.toNat default).tasks.getD k.toNat default) K) = true) :
    ∃ z, turnT s (s.allocs.getD a.toNat default) ((s.allocs.getD a.toNat default).tasks.getD k.toNat default) ((s.allocs.getD a.toNat default).spec.tasks.getD k.toNat default).policy (recR s a k (nextG ((s.allocs.getD a.toNat default).tasks.getD k.toNat default) K) K) = (0, z) ∧
    applyF c s (recR s a k (nextG ((s.allocs.getD a.toNat default).tasks.getD k.toNat default) K) K) = (0, turnS s a.toNat k.toNat (recR s a k (nextG ((s.allocs.getD a.toNat default).tasks.getD k.toNat default) K) K) z) := by
  have hT' := of_decide_eq_true (show decide ((0 ≤ a ∧ a < s.allocs.length) ∧ 0 ≤ k ∧ k < (s.allocs.getD a.toNat default).tasks.length) = true from hth)
  obtain ⟨⟨ha1, ha2⟩, hk1, hk2⟩ := hT'
  obtain ⟨hc, hs⟩ := stE_iff.1 hG.1
  have hi : a.toNat < s.allocs.length := by omega
  have hj : k.toNat < (s.allocs.getD a.toNat default).tasks.length := by omega
  obtain ⟨q1, q2, q3, q4, q5, q6, q7⟩ := hs.each _ (mem_at hi)
  have hpol : ((s.allocs.getD a.toNat default).spec.tasks.getD k.toNat default).policy.ok := (specE_pol q1).2 _ (mem_at (by omega))
  have hid := (specE_pol q1).1
  have h4 := (specE_0 q1).2.2
  have tk := q7 k.toNat hj
  have hpos : 0 ≤ ((s.allocs.getD a.toNat default).tasks.getD k.toNat default).state := hG.2 _ _
  have hdo := turn_done (c := c) (s := s) (i := a.toNat) (j := k.toNat) (r := recR s a k (nextG ((s.allocs.getD a.toNat default).tasks.getD k.toNat default) K) K) hG.1 hi hj
  generalize hal : s.allocs.getD a.toNat default = al at *
  generalize ht0 : al.tasks.getD k.toNat default = t at *
  generalize (al.spec.tasks.getD k.toNat default).policy = p at *
  have hlast := lastS_le hst (by have := hnow.1; omega)
  have he := tk.1
  have hti := tk.2.1
  have g := errT_0.1 he
  have hend := tk.2.2
  have hta : inR k 0 3 := ⟨hk1, by omega⟩
  have h0mT : inR 0 0 mT := by decide
  have hkk : k = (k.toNat : Int) := by omega
  obtain ⟨Kn, Ke, Kf, Ks, Kh, ⟨Kp, Ko, Kt, Kal, Kte, Kki, Kc⟩, Kot⟩ := K
  have hKn : Kn = now := hK
  subst hKn
  -- which record
  have fin : ∀ (r : Rec), recR s a k (nextG t ⟨Kn, Ke, Kf, Ks, Kh, ⟨Kp, Ko, Kt, Kal, Kte, Kki, Kc⟩, Kot⟩) ⟨Kn, Ke, Kf, Ks, Kh, ⟨Kp, Ko, Kt, Kal, Kte, Kki, Kc⟩, Kot⟩ = r → r.id = al.spec.id → r.task = k → recE r = 0 → (4 ≤ r.kind ∧ r.kind ≤ 8) → (turnT s al t p r).1 = 0 →
      ∃ z, turnT s al t p (recR s a k (nextG t ⟨Kn, Ke, Kf, Ks, Kh, ⟨Kp, Ko, Kt, Kal, Kte, Kki, Kc⟩, Kot⟩) ⟨Kn, Ke, Kf, Ks, Kh, ⟨Kp, Ko, Kt, Kal, Kte, Kki, Kc⟩, Kot⟩) = (0, z) ∧
      applyF c s (recR s a k (nextG t ⟨Kn, Ke, Kf, Ks, Kh, ⟨Kp, Ko, Kt, Kal, Kte, Kki, Kc⟩, Kot⟩) ⟨Kn, Ke, Kf, Ks, Kh, ⟨Kp, Ko, Kt, Kal, Kte, Kki, Kc⟩, Kot⟩) = (0, turnS s a.toNat k.toNat (recR s a k (nextG t ⟨Kn, Ke, Kf, Ks, Kh, ⟨Kp, Ko, Kt, Kal, Kte, Kki, Kc⟩, Kot⟩) ⟨Kn, Ke, Kf, Ks, Kh, ⟨Kp, Ko, Kt, Kal, Kte, Kki, Kc⟩, Kot⟩) z) := by
    intro r hr h1 h2 h3 h5 h6
    rw [hr] at hdo ⊢
    exact ⟨_, Prod.ext h6 rfl, hdo h1 (h2.trans hkk) h3 h5 (fun _ => by omega) h6⟩
  have hrec : ∀ x : Step, recR s a k x ⟨Kn, Ke, Kf, Ks, Kh, ⟨Kp, Ko, Kt, Kal, Kte, Kki, Kc⟩, Kot⟩ = if x.do_ = 1 then ⟨4, 0, default, al.spec.id, k, Kn, 0, 0, 0, 0⟩ else if x.do_ = 2 then ⟨5, 0, default, al.spec.id, k, 0, 0, Kp, Ko, 0⟩ else if x.do_ = 3 then ⟨8, 0, default, al.spec.id, k, Kn, 0, 0, 0, x.code⟩ else if x.do_ = 4 then ⟨7, 0, default, al.spec.id, k, 0, 0, 0, 0, 0⟩ else default := fun x => by
    unfold recR
    rw [hal, hth]
    by_cases c6 : 6 < x.do_
    · rw [if_pos (.inr c6), if_neg (by omega), if_neg (by omega), if_neg (by omega), if_neg (by omega)]
    · rw [if_neg (fun h => h.elim (fun h => by cases h) c6)]
  have hb2 : (nextG t ⟨Kn, Ke, Kf, Ks, Kh, ⟨Kp, Ko, Kt, Kal, Kte, Kki, Kc⟩, Kot⟩).do_ = 1 ∨ (nextG t ⟨Kn, Ke, Kf, Ks, Kh, ⟨Kp, Ko, Kt, Kal, Kte, Kki, Kc⟩, Kot⟩).do_ = 2 ∨ (nextG t ⟨Kn, Ke, Kf, Ks, Kh, ⟨Kp, Ko, Kt, Kal, Kte, Kki, Kc⟩, Kot⟩).do_ = 3 ∨ (nextG t ⟨Kn, Ke, Kf, Ks, Kh, ⟨Kp, Ko, Kt, Kal, Kte, Kki, Kc⟩, Kot⟩).do_ = 4 := by
    unfold recB at hb
    rw [hth] at hb
    simp only [Bool.true_and, Bool.or_eq_true, beq_iff_eq] at hb
    rcases hb with ((h | h) | h) | h
    · exact .inl h
    · exact .inr (.inl h)
    · exact .inr (.inr (.inl h))
    · exact .inr (.inr (.inr h))
  -- the four kinds
  have intent : (t.state = 0 ∨ t.state = 3 ∧ t.due ≤ Kn) → (intentT t p s.next Kn).1 = 0 := fun h => by
    unfold intentT
    rw [if_pos ⟨hpol, ⟨by have := hs.nx.1; omega, by omega⟩, hnow⟩]
    have : (doIntent t p s.next Kn).1 = 0 := by
      unfold doIntent
      rw [if_neg (by omega), if_neg (by omega)]
    rw [chg_do he this]; exact this
  have exit : ∀ code, (t.state = 1 ∨ t.state = 2 ∨ t.state = 4 ∨ t.state = 5) → (exitT t p al.stop code Kn).1 = 0 := fun code h => by
    unfold exitT
    rw [if_pos ⟨hpol, hnow⟩]
    have : (doExit t p al.stop code Kn).1 = 0 := by
      unfold doExit
      rw [if_neg (by omega), if_neg (by omega)]
      split
      · rfl
      split <;> rfl
    rw [chg_do he this]; exact this
  have kill : (t.state = 1 ∨ t.state = 2 ∨ t.state = 4) → (killT t).1 = 0 := fun h => by
    unfold killT
    have : (doKill t).1 = 0 := by
      unfold doKill
      rw [if_neg (by omega)]
    rw [chg_do he this]; exact this
  have handle : t.state = 1 → inR Kp 0 mT ∧ inR Ko 0 mT → (handleT t Kp Ko).1 = 0 := fun h h2 => by
    unfold handleT
    rw [if_pos h2]
    have : (doHandle t Kp Ko).1 = 0 := by
      unfold doHandle
      rw [if_neg (by omega)]
    rw [chg_do he this]; exact this
  have key : (nextG t ⟨Kn, Ke, Kf, Ks, Kh, ⟨Kp, Ko, Kt, Kal, Kte, Kki, Kc⟩, Kot⟩).do_ = 1 ∧ (t.state = 0 ∨ t.state = 3 ∧ t.due ≤ Kn) ∨ (nextG t ⟨Kn, Ke, Kf, Ks, Kh, ⟨Kp, Ko, Kt, Kal, Kte, Kki, Kc⟩, Kot⟩).do_ = 2 ∧ t.state = 1 ∧ Kh = true ∨ (nextG t ⟨Kn, Ke, Kf, Ks, Kh, ⟨Kp, Ko, Kt, Kal, Kte, Kki, Kc⟩, Kot⟩).do_ = 3 ∧ (t.state = 1 ∨ t.state = 2 ∨ t.state = 4 ∨ t.state = 5) ∨ (nextG t ⟨Kn, Ke, Kf, Ks, Kh, ⟨Kp, Ko, Kt, Kal, Kte, Kki, Kc⟩, Kot⟩).do_ = 4 ∧ (t.state = 1 ∨ t.state = 2 ∨ t.state = 4) := by
    have h7 := g.h_st
    have hss : t.state = 0 ∨ t.state = 1 ∨ t.state = 2 ∨ t.state = 3 ∨ t.state = 4 ∨ t.state = 5 ∨ t.state = 6 ∨ t.state = 7 := by omega
    clear hb hrec fin intent exit kill handle hdo hp
    unfold nextG liveG at hb2 ⊢
    rcases hss with e | e | e | e | e | e | e | e <;> simp only [e] at hb2 ⊢
    · cases Ke <;> cases Kot <;> simp at hb2 ⊢
    · cases Kh <;> cases Kal <;> cases Kf <;> simp at hb2 ⊢
    · cases Kh <;> cases Kal <;> cases Kf <;> cases Ks <;> simp at hb2 ⊢
    · cases Ke <;> cases Kot <;> simp at hb2 ⊢
      by_cases cc : t.due ≤ Kn
      · simp [cc]
      · simp [cc] at hb2
    · cases Kh <;> cases Kal <;> cases Kf <;> cases Kte <;> simp at hb2 ⊢
      all_goals (by_cases cc : t.until_ ≤ Kn <;> simp [cc] at hb2 ⊢)
    · cases Kh <;> cases Kal <;> cases Kki <;> simp at hb2 ⊢
    · simp at hb2
    · simp at hb2
  rcases key with ⟨e, h⟩ | ⟨e, h, h2⟩ | ⟨e, h⟩ | ⟨e, h⟩
  · refine fin ⟨4, 0, default, al.spec.id, k, Kn, 0, 0, 0, 0⟩ (by rw [hrec, if_pos e]) rfl rfl (recE_task (by omega) hid hta hnow h0mT h0mT (fun h => absurd rfl h) (fun _ => ⟨rfl, rfl⟩) (fun _ => rfl)) ⟨by dsimp only; omega, by dsimp only; omega⟩ ?_
    exact intent h
  · have hpr := hp h2 e
    refine fin ⟨5, 0, default, al.spec.id, k, 0, 0, Kp, Ko, 0⟩ (by rw [hrec, if_neg (by omega), if_pos e]) rfl rfl (recE_task (by omega) hid hta h0mT hpr.1 hpr.2 (fun _ _ => rfl) (fun h => absurd rfl h) (fun _ => rfl)) ⟨by dsimp only; omega, by dsimp only; omega⟩ ?_
    exact handle h hpr
  · refine fin ⟨8, 0, default, al.spec.id, k, Kn, 0, 0, 0, _⟩ (by rw [hrec, if_neg (by omega), if_neg (by omega), if_pos e]) rfl rfl (recE_task (by omega) hid hta hnow h0mT h0mT (fun _ h => absurd rfl h) (fun _ => ⟨rfl, rfl⟩) (fun h => absurd rfl h)) ⟨by dsimp only; omega, by dsimp only; omega⟩ ?_
    exact exit _ h
  · refine fin ⟨7, 0, default, al.spec.id, k, 0, 0, 0, 0, 0⟩ (by rw [hrec, if_neg (by omega), if_neg (by omega), if_neg (by omega), if_pos e]) rfl rfl (recE_task (by omega) hid hta h0mT h0mT h0mT (fun _ _ => rfl) (fun _ => ⟨rfl, rfl⟩) (fun _ => rfl)) ⟨by dsimp only; omega, by dsimp only; omega⟩ ?_
    exact kill h
theorem exit_rest {t : Task} {p : Policy} {stop : Bool} {code tick : Int} (hz : (exitT t p stop code tick).1 = 0) : (exitT t p stop code tick).2.state = 3 ∨ (exitT t p stop code tick).2.state = 6 ∨ (exitT t p stop code tick).2.state = 7 := by
  obtain ⟨h1, h2, h3⟩ := chg_ok hz
  rw [show exitT t p stop code tick = doExit t p stop code tick from h3]
  unfold doExit at h2 ⊢
  by_cases c : t.state ≠ 1 ∧ t.state ≠ 2 ∧ t.state ≠ 4 ∧ t.state ≠ 5
  · rw [if_pos c] at h2; exact absurd h2 (show (7 : Int) ≠ 0 by omega)
  rw [if_neg c] at h2 ⊢
  by_cases c2 : tick < lastS t.starts
  · rw [if_pos c2] at h2; exact absurd h2 (show (13 : Int) ≠ 0 by omega)
  rw [if_neg c2]
  split
  · exact .inr (.inl rfl)
  split
  · exact .inr (.inr rfl)
  · exact .inl rfl
/-- What is next while no process is live, the lease is over and the node is not fenced. -/
theorem next_settle {t : Task} {K : Look} (h : errT t = 0) (h0 : 0 ≤ t.state) (he : K.expired = true) (ha : K.has = true → K.proc.alive = false) :
    ((nextG t K).do_ = 0 ∧ (t.state = 0 ∨ t.state = 3 ∨ overT t.state)) ∨ ((nextG t K).do_ = 3 ∧ ¬ (t.state = 0 ∨ t.state = 3 ∨ overT t.state)) := by
  have h7 := (errT_0.1 h).h_st
  have hss : t.state = 0 ∨ t.state = 1 ∨ t.state = 2 ∨ t.state = 3 ∨ t.state = 4 ∨ t.state = 5 ∨ t.state = 6 ∨ t.state = 7 := by omega
  obtain ⟨Kn, Ke, Kf, Ks, Kh, ⟨Kp, Ko, Kt, Kal, Kte, Kki, Kc⟩, Kot⟩ := K
  dsimp only at he ha
  subst he
  unfold nextG overT
  rcases hss with e | e | e | e | e | e | e | e <;> simp only [e]
  all_goals (cases Kh <;> cases Kal <;> simp at ha ⊢)
end Go.Proofs.YtdblhmpcilihnaaGreat
