/- Applying a record, so that it can be computed. -/
import Derived.Test.YtdblhmpcilihnaaGreatKK
namespace Go.Proofs.YtdblhmpcilihnaaGreat
set_option maxRecDepth 100000
set_option linter.unusedVariables false
set_option linter.unusedSimpArgs false
def overC (a : Alloc) : Bool := a.tasks.all fun t => decide (overT t.state)
theorem overC_eq : overB = overC := by
  funext a
  rw [Bool.eq_iff_iff, overB_iff]
  unfold overC
  rw [List.all_eq_true]
  simp
instance (l : List Int) : Decidable (srtS l) := by unfold srtS; infer_instance
def goodC (t : Task) : Bool :=
  decide (t.state ≤ 7) && decide (0 ≤ t.inc) && decide (t.inc ≤ 1099511627776) && decide (t.starts.length ≤ 8) && decide (t.starts.length = 0 ↔ t.inc = 0) && decide (srtS t.starts) &&
  decide (t.state = 0 → t.inc = 0 ∧ t.code = 0) && decide (t.inc = 0 → t.state = 0 ∨ t.state = 6) && decide (t.pid = 0 ∨ (t.state = 2 ∨ t.state = 4 ∨ t.state = 5) ∧ 0 ≤ t.pid ∧ t.pid ≤ 1099511627776) &&
  decide (t.nonce = 0 ∨ (t.state = 2 ∨ t.state = 4 ∨ t.state = 5) ∧ 0 ≤ t.nonce ∧ t.nonce ≤ 1099511627776) && decide (t.due = 0 ∨ t.state = 3 ∧ 0 ≤ t.due ∧ t.due ≤ 2199023255552) && decide (t.until_ = 0 ∨ t.state = 4 ∧ 0 ≤ t.until_ ∧ t.until_ ≤ 2199023255552)
theorem goodC_iff (t : Task) : goodC t = true ↔ errT t = 0 := by
  rw [errT_0]
  unfold goodC
  simp only [Bool.and_eq_true, decide_eq_true_eq]
  constructor
  · rintro ⟨⟨⟨⟨⟨⟨⟨⟨⟨⟨⟨h1, h2⟩, h3⟩, h4⟩, h5⟩, h6⟩, h7⟩, h8⟩, h9⟩, h10⟩, h11⟩, h12⟩
    exact ⟨h1, h2, h3, h4, h5, srt_iff.2 h6, h7, h8, h9, h10, h11, h12⟩
  · rintro ⟨h1, h2, h3, h4, h5, h6, h7, h8, h9, h10, h11, h12⟩
    exact ⟨⟨⟨⟨⟨⟨⟨⟨⟨⟨⟨h1, h2⟩, h3⟩, h4⟩, h5⟩, srt_iff.1 h6⟩, h7⟩, h8⟩, h9⟩, h10⟩, h11⟩, h12⟩
def errC (t : Task) : Int := if goodC t = true then 0 else 2
theorem errC_eq : errT = errC := by
  funext t
  unfold errC
  by_cases h : goodC t = true
  · rw [if_pos h]; exact (goodC_iff t).1 h
  · rw [if_neg h]
    rcases (show errT t = 0 ∨ errT t = 2 by unfold errT errF; split <;> simp) with h1 | h1
    · exact absurd ((goodC_iff t).2 h1) h
    · exact h1
def liveC (l : List Alloc) : List Alloc := l.filter fun a => !overC a
theorem liveC_eq : live = liveC := by funext l; unfold live liveC; rw [overC_eq]
def usedRC (l : List Alloc) : List Res := (liveC l).map fun a => a.spec.res
def usedPC (l : List Alloc) : List (List Int) := (liveC l).map fun a => a.spec.ports
theorem usedRC_eq : usedR = usedRC := by funext l; unfold usedR usedRC; rw [liveC_eq]
theorem usedPC_eq : usedP = usedPC := by funext l; unfold usedP usedPC; rw [liveC_eq]
def endC (stop : Bool) (st : Int) : Bool := if stop then decide (st = 4 ∨ st = 5 ∨ overT st) else decide (st ≠ 4)
theorem endC_iff {stop : Bool} {st : Int} : endC stop st = true ↔ endOk stop st := by
  unfold endC endOk endsT
  cases stop <;> simp
def allocC (c : Config) (s : State) (a : Alloc) : Bool :=
  decide (specE a.spec = 0) && decide (1 ≤ a.life) && decide (a.life < s.lives) && decide (0 ≤ a.slot) && decide (a.slot < c.allocs) && decide (a.tasks.length = a.spec.tasks.length) && a.tasks.all fun t => goodC t && decide (t.inc < s.next) && endC a.stop t.state
theorem allocC_iff {c : Config} {s : State} {a : Alloc} : allocC c s a = true ↔ allocOk c s a := by
  unfold allocC allocOk
  simp only [Bool.and_eq_true, decide_eq_true_eq, allTk_iff, List.all_eq_true]
  have key : (∀ t ∈ a.tasks, (goodC t = true ∧ t.inc < s.next) ∧ endC a.stop t.state = true) ↔ ∀ t ∈ a.tasks, tkOk a s.next t := by
    constructor
    · intro h t ht
      obtain ⟨⟨h1, h2⟩, h3⟩ := h t ht
      exact ⟨(goodC_iff t).1 h1, h2, endC_iff.1 h3⟩
    · intro h t ht
      obtain ⟨h1, h2, h3⟩ := h t ht
      exact ⟨⟨(goodC_iff t).2 h1, h2⟩, endC_iff.2 h3⟩
  rw [← key]
  constructor
  · rintro ⟨⟨⟨⟨⟨⟨h1, h2⟩, h3⟩, h4⟩, h5⟩, h6⟩, h7⟩; exact ⟨h1, h2, h3, h4, h5, h6, h7⟩
  · rintro ⟨h1, h2, h3, h4, h5, h6, h7⟩; exact ⟨⟨⟨⟨⟨⟨h1, h2⟩, h3⟩, h4⟩, h5⟩, h6⟩, h7⟩
instance (a b : Alloc) : Decidable (nearA a b) := by unfold nearA; infer_instance
instance (c : Config) (l : List Res) : Decidable (fitL c l) := by unfold fitL; infer_instance
def stC (c : Config) (s : State) : Bool :=
  decide (inR s.epoch 0 mT) && decide (inR s.next 1 mT) && decide (inR s.lives 1 mT) && decide (inR s.ack (-1) mT) && decide ((s.allocs.length : Int) ≤ c.allocs) && decide (s.allocs.Pairwise nearA) && decide (incsL s.allocs).Nodup && s.allocs.all (allocC c s) && decide (fitL c (usedRC s.allocs)) && decide ((usedPC s.allocs).Pairwise fun a b => meetF b a = [])
theorem stC_iff {c : Config} {s : State} : stC c s = true ↔ StL c s := by
  unfold stC
  simp only [Bool.and_eq_true, decide_eq_true_eq, List.all_eq_true]
  constructor
  · rintro ⟨⟨⟨⟨⟨⟨⟨⟨⟨h1, h2⟩, h3⟩, h4⟩, h5⟩, h6⟩, h7⟩, h8⟩, h9⟩, h10⟩
    exact ⟨h1, h2, h3, h4, h5, h6, h7, fun a ha => allocC_iff.1 (h8 a ha), by rw [usedRC_eq]; exact h9, by rw [usedPC_eq]; exact h10⟩
  · rintro ⟨h1, h2, h3, h4, h5, h6, h7, h8, h9, h10⟩
    exact ⟨⟨⟨⟨⟨⟨⟨⟨⟨h1, h2⟩, h3⟩, h4⟩, h5⟩, h6⟩, h7⟩, fun a ha => allocC_iff.2 (h8 a ha)⟩, by rw [← usedRC_eq]; exact h9⟩, by rw [← usedPC_eq]; exact h10⟩
def stEC (c : Config) (s : State) : Int := if ¬ c.ok then 3 else if stC c s = true then 0 else 2
theorem stEC_eq (c : Config) (s : State) : stE c s = stEC c s := by
  unfold stE stEC
  by_cases h : c.ok
  · rw [if_neg (not_not_intro h), if_neg (not_not_intro h)]
    by_cases h2 : stC c s = true
    · rw [if_pos h2, if_pos ((stOk_iff h).2 (stC_iff.1 h2))]
    · rw [if_neg h2, if_neg (fun h3 => h2 (stC_iff.2 ((stOk_iff h).1 h3)))]
  · rw [if_pos h, if_pos h]
def zspC (x : Spec) : Bool := decide (x.id = 0 ∧ x.res.cpu = 0 ∧ x.res.mem = 0 ∧ x.res.disk = 0 ∧ x.ports = []) && x.tasks.isEmpty
theorem zspC_iff {x : Spec} : zspC x = true ↔ x = zSp := by
  unfold zspC
  obtain ⟨id, ⟨a, b, c⟩, p, t⟩ := x
  simp only [Bool.and_eq_true, decide_eq_true_eq, List.isEmpty_iff]
  constructor
  · rintro ⟨⟨rfl, rfl, rfl, rfl, rfl⟩, rfl⟩; rfl
  · intro h; cases h; exact ⟨⟨rfl, rfl, rfl, rfl, rfl⟩, rfl⟩
instance (k : Int) : Decidable (uEp k) := by unfold uEp; infer_instance
instance (k : Int) : Decidable (uId k) := by unfold uId; infer_instance
instance (k : Int) : Decidable (uTa k) := by unfold uTa; infer_instance
instance (k : Int) : Decidable (uTi k) := by unfold uTi; infer_instance
def plnC (r : Rec) : Bool := decide (¬ uEp r.kind → r.epoch = 0) && decide (¬ uId r.kind → r.id = 0) && decide (¬ uTa r.kind → r.task = 0) && decide (¬ uTi r.kind → r.tick = 0) && decide (r.kind ≠ 2 → r.wait = 0) && decide (r.kind ≠ 5 → r.pid = 0) && decide (r.kind ≠ 5 → r.nonce = 0) && decide (r.kind ≠ 8 → r.code = 0) && (decide (r.kind = 1) || zspC r.spec)
theorem plnC_iff {r : Rec} : plnC r = true ↔ r.pln := by
  unfold plnC Rec.pln
  simp only [Bool.and_eq_true, Bool.or_eq_true, decide_eq_true_eq, zspC_iff]
  constructor
  · rintro ⟨⟨⟨⟨⟨⟨⟨⟨h1, h2⟩, h3⟩, h4⟩, h5⟩, h6⟩, h7⟩, h8⟩, h9⟩
    exact ⟨h1, h2, h3, h4, h5, h6, h7, h8, fun h => h9.elim (fun e => absurd e h) id⟩
  · rintro ⟨h1, h2, h3, h4, h5, h6, h7, h8, h9⟩
    refine ⟨⟨⟨⟨⟨⟨⟨⟨h1, h2⟩, h3⟩, h4⟩, h5⟩, h6⟩, h7⟩, h8⟩, ?_⟩
    by_cases e : r.kind = 1
    · exact .inl e
    · exact .inr (h9 e)
instance (r : Rec) : Decidable r.rng := by unfold Rec.rng; infer_instance
def recEC (r : Rec) : Int := if ¬ (1 ≤ r.kind ∧ r.kind ≤ 9) ∨ plnC r = false then 2 else if ¬ r.rng then 3 else if r.kind = 1 then specE r.spec else 0
theorem recEC_eq (r : Rec) : recE r = recEC r := by
  unfold recE recEC
  have e : (¬ r.pln) ↔ plnC r = false := by rw [← plnC_iff]; simp
  by_cases h1 : ¬ (1 ≤ r.kind ∧ r.kind ≤ 9) ∨ ¬ r.pln
  · rw [if_pos h1, if_pos (Or.imp id e.1 h1)]
  · rw [if_neg h1, if_neg (fun h => h1 (Or.imp id e.2 h))]
    by_cases h2 : r.rng
    · rw [if_neg (not_not_intro h2), if_neg (not_not_intro h2)]
    · rw [if_pos h2, if_pos h2]
def chgC (t : Task) (e : Int) (r : Int × Task) : Int × Task := if errC t ≠ 0 then (2, default) else if e ≠ 0 then (e, default) else if r.1 ≠ 0 then (r.1, default) else r
theorem chgC_eq : chgT = chgC := by funext t e r; unfold chgT chgC; rw [errC_eq]
def stop1C (n : Int) (t : Task) : Task := if overT t.state ∨ t.state = 5 then t else (chgC t (if inR n 0 (2 * mT) then 0 else 3) (doStop t n)).2
theorem stop1C_eq : stop1 = stop1C := by funext n t; unfold stop1 stop1C stopT; rw [chgC_eq]
def turnC (s : State) (a : Alloc) (t : Task) (p : Policy) (r : Rec) : Int × Task :=
  if r.kind = 4 then chgC t (if p.ok ∧ inR s.next 1 mT ∧ inR r.tick 0 mT then 0 else 3) (doIntent t p s.next r.tick) else if r.kind = 5 then chgC t (if inR r.pid 0 mT ∧ inR r.nonce 0 mT then 0 else 3) (doHandle t r.pid r.nonce) else if r.kind = 6 then chgC t 0 (doFail t) else if r.kind = 7 then chgC t 0 (doKill t) else
  chgC t (if p.ok ∧ inR r.tick 0 mT then 0 else 3) (doExit t p a.stop r.code r.tick)
theorem turnC_eq : turnT = turnC := by
  funext s a t p r
  unfold turnT turnC intentT handleT failT killT exitT
  rw [chgC_eq]
noncomputable def doPlaceC (c : Config) (s : State) (r : Rec) : Int × State :=
  if r.epoch < s.epoch then (13, zS) else if 0 ≤ findG s.allocs r.spec.id 0 then (8, zS) else
  if c.allocs ≤ s.allocs.length ∨ roomB c (r.spec.res :: usedRC s.allocs) = false then (9, zS) else
  if (usedPC s.allocs).any (fun y => !(meetF r.spec.ports y).isEmpty) = true then (7, zS) else if s.lives = mT then (3, zS) else
  (0, ⟨r.epoch, s.next, s.lives + 1, s.ack, s.allocs.take (posA s.allocs r.spec.id) ++ newA s r.spec :: s.allocs.drop (posA s.allocs r.spec.id)⟩)
theorem doPlaceC_eq (c : Config) (s : State) (r : Rec) : doPlace c s r = doPlaceC c s r := by
  unfold doPlace doPlaceC
  rw [usedRC_eq, usedPC_eq]
  have e : (∃ y ∈ usedPC s.allocs, meetF r.spec.ports y ≠ []) ↔ (usedPC s.allocs).any (fun y => !(meetF r.spec.ports y).isEmpty) = true := by
    rw [List.any_eq_true]
    constructor
    · rintro ⟨y, h1, h2⟩; exact ⟨y, h1, by simpa using h2⟩
    · rintro ⟨y, h1, h2⟩; exact ⟨y, h1, by simpa using h2⟩
  by_cases h1 : r.epoch < s.epoch
  · rw [if_pos h1, if_pos h1]
  rw [if_neg h1, if_neg h1]
  by_cases h2 : 0 ≤ findG s.allocs r.spec.id 0
  · rw [if_pos h2, if_pos h2]
  rw [if_neg h2, if_neg h2]
  by_cases h3 : c.allocs ≤ s.allocs.length ∨ roomB c (r.spec.res :: usedRC s.allocs) = false
  · rw [if_pos h3, if_pos h3]
  rw [if_neg h3, if_neg h3]
  by_cases h4 : ∃ y ∈ usedPC s.allocs, meetF r.spec.ports y ≠ []
  · rw [if_pos h4, if_pos (e.1 h4)]
  rw [if_neg h4, if_neg (fun h => h4 (e.2 h))]
def doStopC (s : State) (r : Rec) : Int × State :=
  if r.epoch < s.epoch then (13, zS) else if findG s.allocs r.id 0 < 0 then (6, zS) else
  if (s.at (findG s.allocs r.id 0)).stop = true ∨ overC (s.at (findG s.allocs r.id 0)) = true then (7, zS) else
  (0, ⟨r.epoch, s.next, s.lives, s.ack, s.allocs.set (findG s.allocs r.id 0).toNat ((s.at (findG s.allocs r.id 0)).put true ((s.at (findG s.allocs r.id 0)).tasks.map (stop1C (r.tick + r.wait))))⟩)
theorem doStopC_eq (s : State) (r : Rec) : doStopS s r = doStopC s r := by
  unfold doStopS doStopC
  rw [overC_eq, stop1C_eq]
def doForgetC (s : State) (r : Rec) : Int × State :=
  if r.epoch < s.epoch then (13, zS) else if findG s.allocs r.id 0 < 0 then (6, zS) else
  if overC (s.at (findG s.allocs r.id 0)) = false then (7, zS) else
  (0, ⟨r.epoch, s.next, s.lives, s.ack, s.allocs.eraseIdx (findG s.allocs r.id 0).toNat⟩)
theorem doForgetC_eq (s : State) (r : Rec) : doForget s r = doForgetC s r := by
  unfold doForget doForgetC
  rw [overC_eq]
def doTurnC (s : State) (r : Rec) : Int × State :=
  if findG s.allocs r.id 0 < 0 then (6, zS) else
  let a := s.at (findG s.allocs r.id 0)
  if r.task < 0 ∨ (a.tasks.length : Int) ≤ r.task ∨ (r.kind = 4 ∧ s.next = mT) then (3, zS) else
  let z := turnC s a (a.tk r.task) (a.pol r.task) r
  if z.1 ≠ 0 then (z.1, zS) else
  (0, ⟨s.epoch, if r.kind = 4 then s.next + 1 else s.next, s.lives, s.ack, s.allocs.set (findG s.allocs r.id 0).toNat (a.put a.stop (a.tasks.set r.task.toNat z.2))⟩)
theorem doTurnC_eq (s : State) (r : Rec) : doTurn s r = doTurnC s r := by
  unfold doTurn doTurnC
  rw [turnC_eq]
noncomputable def doRecC (c : Config) (s : State) (r : Rec) : Int × State :=
  if r.kind = 1 then doPlaceC c s r else if r.kind = 2 then doStopC s r else if r.kind = 3 then doForgetC s r else if r.kind = 9 then doAck s r else doTurnC s r
/-- A record is applied: computed. -/
noncomputable def applyC (c : Config) (s : State) (r : Rec) : Int × State := if stEC c s ≠ 0 then (stEC c s, zS) else if recEC r ≠ 0 then (recEC r, zS) else doRecC c s r
theorem applyC_eq (c : Config) (s : State) (r : Rec) : applyF c s r = applyC c s r := by
  unfold applyF applyC doRec doRecC
  rw [stEC_eq, recEC_eq, doPlaceC_eq, doStopC_eq, doForgetC_eq, doTurnC_eq]
/-- The states of the examples. -/
def exSeven : Spec := ⟨7, ⟨4, 4, 4⟩, [80], [⟨⟨false, 2, 20, 2, 8⟩, 0⟩]⟩
def exC : Config := ⟨⟨10, 10, 10⟩, 2, 48, 2, 2, 5, 10, 2, 3⟩
def exS1 : State := ⟨1, 1, 2, -1, [⟨exSeven, 1, 0, false, [⟨0, 0, 0, 0, 0, 0, 0, []⟩]⟩]⟩
theorem ex_placed : applyF exC ⟨0, 1, 1, -1, []⟩ ⟨1, 1, exSeven, 0, 0, 0, 0, 0, 0, 0⟩ = (0, exS1) := by rw [applyC_eq]; kernel_rfl
theorem ex_intent : applyF exC exS1 ⟨4, 0, zSp, 7, 0, 3, 0, 0, 0, 0⟩ = (0, ⟨1, 2, 2, -1, [⟨exSeven, 1, 0, false, [⟨1, 1, 0, 0, 0, 0, 0, [3]⟩]⟩]⟩) := by rw [applyC_eq]; kernel_rfl
end Go.Proofs.YtdblhmpcilihnaaGreat
