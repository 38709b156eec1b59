/- What a record does keeps a state valid: plain lists and numbers. A record that is applied leads to a valid state again. What each record leads to, when it is applied; numbers that never fall; tokens that do not come back. -/
import Derived.Test.YtdblhmpcilihnaaGreatSS
namespace Go.Proofs.YtdblhmpcilihnaaGreat
set_option maxRecDepth 100000
set_option linter.unusedVariables false
set_option linter.unusedSimpArgs false
theorem forall_getD {α : Type} [Inhabited α] {P : α → Prop} {l : List α} : (∀ i, i < l.length → P (l.getD i default)) ↔ ∀ a ∈ l, P a := by
  constructor
  · intro h a ha
    obtain ⟨i, hi, rfl⟩ := List.getElem_of_mem ha
    have := h i hi
    simpa [List.getD_eq_getElem?_getD, hi] using this
  · intro h i hi
    have : l.getD i default = l[i] := by simp [List.getD_eq_getElem?_getD, hi]
    rw [this]
    exact h _ (List.getElem_mem hi)
theorem pw_getD {α : Type} [Inhabited α] {R : α → α → Prop} {l : List α} : (∀ i, i < l.length → ∀ k, k < i → R (l.getD k default) (l.getD i default)) ↔ l.Pairwise R := by
  rw [List.pairwise_iff_getElem]
  constructor
  · intro h i j hi hj hij
    have := h j hj i hij
    simpa [List.getD_eq_getElem?_getD, hi, hj] using this
  · intro h i hi k hk
    have := h k i (by omega) hi hk
    simpa [List.getD_eq_getElem?_getD, hi, show k < l.length by omega] using this
theorem split_at {α : Type} [Inhabited α] {l : List α} {i : Nat} (h : i < l.length) : l = l.take i ++ l.getD i default :: l.drop (i + 1) := by
  rw [← dropAtD h, List.take_append_drop]
theorem setAt {α : Type} {l : List α} {i : Nat} (h : i < l.length) (x : α) : l.set i x = l.take i ++ x :: l.drop (i + 1) := by
  rw [List.set_eq_take_append_cons_drop, if_pos h]
theorem erase_at {α : Type} {l : List α} {i : Nat} : l.eraseIdx i = l.take i ++ l.drop (i + 1) := List.eraseIdx_eq_take_drop_succ ..
/-- Starts in order. -/
def srtS (l : List Int) : Prop := (∀ x ∈ l, 0 ≤ x ∧ x ≤ mT) ∧ l.Pairwise (· ≤ ·)
theorem srt_iff {l : List Int} : (∀ j, j < l.length → goodAt l j) ↔ srtS l := by
  constructor
  · intro h
    refine ⟨forall_getD.1 fun i hi => (h i hi).1, pw_getD.1 fun i hi k hk => ?_⟩
    show l.getD k 0 ≤ l.getD i 0
    induction i with
    | zero => omega
    | succ i ih =>
      have h2 := (h (i + 1) hi).2 (by omega)
      rcases Nat.lt_succ_iff_lt_or_eq.1 hk with h3 | rfl
      · exact Int.le_trans (ih (by omega) h3) h2
      · exact h2
  · rintro ⟨h1, h2⟩ j hj
    exact ⟨forall_getD.2 h1 j hj, fun h0 => pw_getD.2 h2 j hj (j - 1) (by omega)⟩
theorem srt_sub {l m : List Int} (h : m.Sublist l) (hl : srtS l) : srtS m := ⟨fun x hx => hl.1 x (h.subset hx), hl.2.sublist h⟩
theorem last_le {l : List Int} (h : srtS l) : ∀ x ∈ l, x ≤ lastS l := by
  intro x hx
  obtain ⟨i, hi, rfl⟩ := List.getElem_of_mem hx
  have e : lastS l = l[l.length - 1] := by
    unfold lastS
    rw [List.getD_eq_getElem?_getD, List.getElem?_eq_getElem (by omega)]
    rfl
  rw [e]
  by_cases c : i = l.length - 1
  · subst c; exact Int.le_refl _
  · exact List.pairwise_iff_getElem.1 h.2 i (l.length - 1) hi (by omega) (by omega)
theorem srt_snoc {l : List Int} {x : Int} (h : srtS l) (h0 : 0 ≤ x ∧ x ≤ mT) (hx : ∀ y ∈ l, y ≤ x) : srtS (l ++ [x]) := by
  refine ⟨fun y hy => ?_, ?_⟩
  · rcases List.mem_append.1 hy with h1 | h1
    · exact h.1 y h1
    · rw [List.mem_singleton.1 h1]; exact h0
  · rw [List.pairwise_append]
    exact ⟨h.2, List.pairwise_singleton _ _, fun a ha b hb => by rw [List.mem_singleton.1 hb]; exact hx a ha⟩
theorem keepS_sub (l : List Int) (w t : Int) : (keepS l w t).Sublist l := by
  unfold keepS
  split
  · exact List.drop_sublist _ _
  · exact List.filter_sublist
theorem lastN_sub (l : List Int) (n : Nat) : (lastN l n).Sublist l := List.drop_sublist _ _
theorem lastN_len (l : List Int) (n : Nat) : (lastN l n).length ≤ n := by unfold lastN; rw [List.length_drop]; omega
theorem errT_0 {t : Task} : errT t = 0 ↔ goodF t.state t.inc t.pid t.nonce t.due t.until_ t.code t.starts := by
  unfold errT
  constructor
  · intro h
    exact Classical.not_not.1 fun hn => by rw [errF_no hn] at h; omega
  · exact errF_yes
theorem chg_ok {t : Task} {e : Int} {r : Int × Task} (h : (chgT t e r).1 = 0) : e = 0 ∧ r.1 = 0 ∧ chgT t e r = r := by
  unfold chgT at h ⊢
  by_cases h1 : errT t ≠ 0
  · rw [if_pos h1] at h; exact absurd h (show (2 : Int) ≠ 0 by omega)
  rw [if_neg h1] at h ⊢
  by_cases h2 : e ≠ 0
  · rw [if_pos h2] at h; exact absurd h h2
  rw [if_neg h2] at h ⊢
  by_cases h3 : r.1 ≠ 0
  · rw [if_pos h3] at h; exact absurd h h3
  rw [if_neg h3]
  exact ⟨Classical.not_not.1 h2, Classical.not_not.1 h3, rfl⟩
/-- What a transition's result is. -/
structure TurnOk (stop : Bool) (t z : Task) (inc : Int) : Prop where
  good : errT z = 0
  pos : 0 ≤ z.state
  ends : endOk stop z.state
  live : ¬ overT t.state
  inc : z.inc = inc
theorem handle_ok {t : Task} {stop : Bool} {pid nonce : Int} (hE : errT t = 0) (he : endOk stop t.state) (hz : (handleT t pid nonce).1 = 0) : TurnOk stop t (handleT t pid nonce).2 t.inc := by
  obtain ⟨h1, h2, h3⟩ := chg_ok hz
  rw [show handleT t pid nonce = doHandle t pid nonce from h3]
  have hr : inR pid 0 mT ∧ inR nonce 0 mT := Classical.not_not.1 fun hn => by rw [if_neg hn] at h1; omega
  unfold doHandle at h2 ⊢
  by_cases c : t.state ≠ 1
  · rw [if_pos c] at h2; exact absurd h2 (show (7 : Int) ≠ 0 by omega)
  rw [if_neg c]
  have g := errT_0.1 hE
  obtain ⟨g1, g2, g3, g4, g5, g6, g7, g8, g9, g10, g11, g12⟩ := g
  unfold endOk endsT overT at *
  unfold inR mT at hr
  refine ⟨errT_0.2 ⟨?_, ?_, ?_, g4, g5, g6, ?_, ?_, ?_, ?_, ?_, ?_⟩, ?_, ?_, ?_, rfl⟩
  all_goals (clear g6; (try dsimp only at *); try omega)
  · cases stop
    · exact ⟨nofun, fun _ => by omega⟩
    · have := he.1 rfl
      exact ⟨fun _ => by unfold endsT overT; omega, nofun⟩
  · unfold overT; omega
theorem fail_ok {t : Task} {stop : Bool} (hE : errT t = 0) (he : endOk stop t.state) (hz : (failT t).1 = 0) : TurnOk stop t (failT t).2 t.inc := by
  obtain ⟨h1, h2, h3⟩ := chg_ok hz
  rw [show failT t = doFail t from h3]
  unfold doFail at h2 ⊢
  by_cases c : t.state ≠ 1
  · rw [if_pos c] at h2; exact absurd h2 (show (7 : Int) ≠ 0 by omega)
  rw [if_neg c]
  obtain ⟨g1, g2, g3, g4, g5, g6, g7, g8, g9, g10, g11, g12⟩ := errT_0.1 hE
  unfold endOk endsT overT at *
  refine ⟨errT_0.2 ⟨?_, ?_, ?_, g4, g5, g6, ?_, ?_, ?_, ?_, ?_, ?_⟩, ?_, ?_, ?_, rfl⟩
  all_goals (clear g6; (try dsimp only at *); try omega)
  · cases stop
    · exact ⟨nofun, fun _ => by omega⟩
    · have := he.1 rfl
      exact ⟨fun _ => by unfold endsT overT; omega, nofun⟩
  · unfold overT; omega
theorem kill_ok {t : Task} {stop : Bool} (hE : errT t = 0) (he : endOk stop t.state) (hz : (killT t).1 = 0) : TurnOk stop t (killT t).2 t.inc := by
  obtain ⟨h1, h2, h3⟩ := chg_ok hz
  rw [show killT t = doKill t from h3]
  unfold doKill at h2 ⊢
  by_cases c : t.state ≠ 1 ∧ t.state ≠ 2 ∧ t.state ≠ 4
  · rw [if_pos c] at h2; exact absurd h2 (show (7 : Int) ≠ 0 by omega)
  rw [if_neg c]
  obtain ⟨g1, g2, g3, g4, g5, g6, g7, g8, g9, g10, g11, g12⟩ := errT_0.1 hE
  unfold endOk endsT overT at *
  refine ⟨errT_0.2 ⟨?_, ?_, ?_, g4, g5, g6, ?_, ?_, ?_, ?_, ?_, ?_⟩, ?_, ?_, ?_, rfl⟩
  all_goals (clear g6; (try dsimp only at *); try omega)
  · cases stop
    · exact ⟨nofun, fun _ => by omega⟩
    · have := he.1 rfl
      exact ⟨fun _ => by unfold endsT overT; omega, nofun⟩
  · unfold overT; omega
theorem intent_ok {t : Task} {p : Policy} {stop : Bool} {inc tick : Int} (hE : errT t = 0) (hw : 0 ≤ t.state) (he : endOk stop t.state) (hz : (intentT t p inc tick).1 = 0) : TurnOk stop t (intentT t p inc tick).2 inc := by
  obtain ⟨h1, h2, h3⟩ := chg_ok hz
  rw [show intentT t p inc tick = doIntent t p inc tick from h3]
  have hr : p.ok ∧ inR inc 1 mT ∧ inR tick 0 mT := Classical.not_not.1 fun hn => by rw [if_neg hn] at h1; omega
  unfold doIntent at h2 ⊢
  by_cases c : t.state ≠ 0 ∧ (t.state ≠ 3 ∨ tick < t.due)
  · rw [if_pos c] at h2; exact absurd h2 (show (7 : Int) ≠ 0 by omega)
  rw [if_neg c] at h2 ⊢
  by_cases c2 : inc ≤ t.inc ∨ tick < lastS t.starts
  · rw [if_pos c2] at h2; exact absurd h2 (show (13 : Int) ≠ 0 by omega)
  rw [if_neg c2]
  obtain ⟨g1, g2, g3, g4, g5, g6, g7, g8, g9, g10, g11, g12⟩ := errT_0.1 hE
  have hsub : (lastN (keepS t.starts p.window tick) 7).Sublist t.starts := (lastN_sub _ _).trans (keepS_sub _ _ _)
  have hs := srt_iff.1 g6
  have hs2 : srtS (lastN (keepS t.starts p.window tick) 7 ++ [tick]) := srt_snoc (srt_sub hsub hs) hr.2.2 fun y hy => Int.le_trans (last_le hs y (hsub.subset hy)) (by omega)
  have hl : (lastN (keepS t.starts p.window tick) 7 ++ [tick]).length ≤ 8 := by have := lastN_len (keepS t.starts p.window tick) 7; simp; omega
  have hl1 : (lastN (keepS t.starts p.window tick) 7 ++ [tick]).length ≠ 0 := by simp
  unfold endOk endsT overT at *
  obtain ⟨hr0, hr1, hr2⟩ := hr
  unfold inR mT at hr1 hr2
  refine ⟨errT_0.2 ⟨?_, ?_, ?_, hl, ⟨fun h => absurd h hl1, fun h => ?_⟩, srt_iff.2 hs2, ?_, ?_, ?_, ?_, ?_, ?_⟩, ?_, ?_, ?_, rfl⟩
  all_goals (clear hs2 hl hl1 hs hsub g6; (try dsimp only at *); try omega)
  · cases stop
    · exact ⟨nofun, fun _ => by omega⟩
    · have := he.1 rfl
      exact ⟨fun _ => by unfold endsT overT; omega, nofun⟩
  · unfold overT; omega
theorem exit_ok {t : Task} {p : Policy} {stop : Bool} {code tick : Int} (hE : errT t = 0) (he : endOk stop t.state) (hz : (exitT t p stop code tick).1 = 0) : TurnOk stop t (exitT t p stop code tick).2 t.inc := by
  obtain ⟨h1, h2, h3⟩ := chg_ok hz
  rw [show exitT t p stop code tick = doExit t p stop code tick from h3]
  have hr : p.ok ∧ inR tick 0 mT := Classical.not_not.1 fun hn => by rw [if_neg hn] at h1; omega
  unfold doExit at h2 ⊢
  by_cases c : t.state ≠ 1 ∧ t.state ≠ 2 ∧ t.state ≠ 4 ∧ t.state ≠ 5
  · rw [if_pos c] at h2; exact absurd h2 (show (7 : Int) ≠ 0 by omega)
  rw [if_neg c] at h2 ⊢
  by_cases c2 : tick < lastS t.starts
  · rw [if_pos c2] at h2; exact absurd h2 (show (13 : Int) ≠ 0 by omega)
  rw [if_neg c2]
  obtain ⟨g1, g2, g3, g4, g5, g6, g7, g8, g9, g10, g11, g12⟩ := errT_0.1 hE
  have hd := dlyS_le p hr.1 (cntS t.starts p.window tick)
  generalize dlyS p (cntS t.starts p.window tick) = d at *
  unfold endOk endsT overT at *
  unfold inR mT at hr
  unfold mT at hd
  by_cases c3 : deadT t p stop code
  · rw [if_pos c3]
    refine ⟨errT_0.2 ⟨?_, ?_, ?_, g4, g5, g6, ?_, ?_, ?_, ?_, ?_, ?_⟩, ?_, ?_, ?_, rfl⟩
    all_goals (clear g6 c3; (try dsimp only at *); try omega)
    · cases stop
      · exact ⟨nofun, fun _ => by omega⟩
      · have := he.1 rfl
        exact ⟨fun _ => by unfold endsT overT; omega, nofun⟩
    · unfold overT; omega
  rw [if_neg c3]
  by_cases c4 : p.limit ≤ cntS t.starts p.window tick
  · rw [if_pos c4]
    refine ⟨errT_0.2 ⟨?_, ?_, ?_, g4, g5, g6, ?_, ?_, ?_, ?_, ?_, ?_⟩, ?_, ?_, ?_, rfl⟩
    all_goals (clear g6 c3; (try dsimp only at *); try omega)
    · cases stop
      · exact ⟨nofun, fun _ => by omega⟩
      · have := he.1 rfl
        exact ⟨fun _ => by unfold endsT overT; omega, nofun⟩
    · unfold overT; omega
  rw [if_neg c4]
  refine ⟨errT_0.2 ⟨?_, ?_, ?_, g4, g5, g6, ?_, ?_, ?_, ?_, ?_, ?_⟩, ?_, ?_, ?_, rfl⟩
  all_goals (clear g6; (try dsimp only at *); try omega)
  · unfold deadT at c3
    cases stop with
    | false => exact ⟨nofun, fun _ => by omega⟩
    | true =>
      have := he.1 rfl
      exfalso
      simp at c3
      omega
  · unfold overT; omega
theorem turn_ok {s : State} {a : Alloc} {t : Task} {p : Policy} {r : Rec} (hE : errT t = 0) (hw : 0 ≤ t.state) (he : endOk a.stop t.state) (hz : (turnT s a t p r).1 = 0) : TurnOk a.stop t (turnT s a t p r).2 (if r.kind = 4 then s.next else t.inc) := by
  unfold turnT at hz ⊢
  by_cases k4 : r.kind = 4
  · rw [if_pos k4] at hz ⊢; rw [if_pos k4]; exact intent_ok hE hw he hz
  rw [if_neg k4] at hz ⊢; rw [if_neg k4]
  by_cases k5 : r.kind = 5
  · rw [if_pos k5] at hz ⊢; exact handle_ok hE he hz
  rw [if_neg k5] at hz ⊢
  by_cases k6 : r.kind = 6
  · rw [if_pos k6] at hz ⊢; exact fail_ok hE he hz
  rw [if_neg k6] at hz ⊢
  by_cases k7 : r.kind = 7
  · rw [if_pos k7] at hz ⊢; exact kill_ok hE he hz
  rw [if_neg k7] at hz ⊢
  exact exit_ok hE he hz
theorem chg_do {t : Task} {r : Int × Task} (h : errT t = 0) (hr : r.1 = 0) : chgT t 0 r = r := by
  unfold chgT
  rw [if_neg (not_not_intro h), if_neg (not_not_intro rfl), if_neg (not_not_intro hr)]
theorem stopT_do {t : Task} {n : Int} (h : errT t = 0) (h4 : t.state ≠ 4) (hn : inR n 0 (2 * mT)) : stopT t n = doStop t n := by
  unfold stopT
  rw [if_pos hn]
  refine chg_do h ?_
  unfold doStop
  rw [if_neg h4]
  repeat' split
  all_goals rfl
/-- What stopping does to a task. -/
theorem stop1_ok {t : Task} {n : Int} (hE : errT t = 0) (hw : 0 ≤ t.state) (h4 : t.state ≠ 4) (hn : inR n 0 (2 * mT)) : errT (stop1 n t) = 0 ∧ 0 ≤ (stop1 n t).state ∧ endsT (stop1 n t).state ∧ (stop1 n t).inc = t.inc := by
  unfold stop1
  by_cases c : overT t.state ∨ t.state = 5
  · rw [if_pos c]
    exact ⟨hE, hw, c.elim (fun h => .inr (.inr h)) (fun h => .inr (.inl h)), rfl⟩
  rw [if_neg c]
  rw [stopT_do hE h4 hn]
  obtain ⟨g1, g2, g3, g4, g5, g6, g7, g8, g9, g10, g11, g12⟩ := errT_0.1 hE
  unfold doStop
  rw [if_neg h4]
  unfold overT at c
  unfold inR mT at hn
  by_cases c2 : t.state = 0 ∨ t.state = 3
  · rw [if_pos c2]
    refine ⟨errT_0.2 ⟨?_, ?_, ?_, g4, g5, g6, ?_, ?_, ?_, ?_, ?_, ?_⟩, ?_, ?_, rfl⟩
    all_goals (clear g6; (try dsimp only at *); try omega)
    unfold endsT overT; omega
  rw [if_neg c2, if_pos (show t.state = 1 ∨ t.state = 2 by omega)]
  refine ⟨errT_0.2 ⟨?_, ?_, ?_, g4, g5, g6, ?_, ?_, ?_, ?_, ?_, ?_⟩, ?_, ?_, rfl⟩
  all_goals (clear g6; (try dsimp only at *); try omega)
  unfold endsT overT; omega
def nearA (a b : Alloc) : Prop := a.life ≠ b.life ∧ a.slot ≠ b.slot ∧ a.spec.id < b.spec.id
def sumsR (l : List Res) : Res := ⟨(l.map Res.cpu).sum, (l.map Res.mem).sum, (l.map Res.disk).sum⟩
def fitL (c : Config) (l : List Res) : Prop := (∀ r ∈ l, r.ok) ∧ (sumsR l).le c.cap
theorem sum_some : ∀ (l : List Res) (a : Res), a.ok → ∀ y, (sumR a l = some y ↔ (∀ r ∈ l, r.ok) ∧ y.ok ∧ y = a.add (sumsR l)) := by
  intro l
  induction l with
  | nil =>
    intro a ha y
    unfold sumR sumsR Res.add
    simp
    constructor
    · rintro rfl; exact ⟨ha, rfl⟩
    · rintro ⟨_, rfl⟩; rfl
  | cons r l ih =>
    intro a ha y
    rw [sumR_cons]
    have e : (a.add r).add (sumsR l) = a.add (sumsR (r :: l)) := by
      unfold Res.add sumsR
      simp [Int.add_assoc]
    have pos : (∀ x ∈ l, x.ok) → 0 ≤ (sumsR l).cpu ∧ 0 ≤ (sumsR l).mem ∧ 0 ≤ (sumsR l).disk := fun h => by
      clear ih e
      induction l with
      | nil => exact ⟨Int.le_refl _, Int.le_refl _, Int.le_refl _⟩
      | cons x l ih =>
        have h1 := ih fun z hz => h z (List.mem_cons_of_mem _ hz)
        have h2 := h x (List.mem_cons_self ..)
        unfold sumsR at *
        unfold Res.ok inR at h2
        simp only [List.map_cons, List.sum_cons]
        dsimp only at *
        omega
    by_cases c : r.ok ∧ (a.add r).ok
    · rw [if_pos c, ih _ c.2, e]
      simp [c.1]
    · rw [if_neg c]
      constructor
      · nofun
      · rintro ⟨h1, h2, h3⟩
        exfalso
        refine c ⟨h1 r (List.mem_cons_self ..), ?_⟩
        have h4 := pos fun x hx => h1 x (List.mem_cons_of_mem _ hx)
        have h5 := h1 r (List.mem_cons_self ..)
        subst h3
        rw [← e] at h2
        generalize sumsR l = z at *
        unfold Res.ok Res.add inR at *
        dsimp only at *
        omega
theorem sums_pos {l : List Res} (h : ∀ x ∈ l, x.ok) : 0 ≤ (sumsR l).cpu ∧ 0 ≤ (sumsR l).mem ∧ 0 ≤ (sumsR l).disk := by
  induction l with
  | nil => exact ⟨Int.le_refl _, Int.le_refl _, Int.le_refl _⟩
  | cons x l ih =>
    have h1 := ih fun z hz => h z (List.mem_cons_of_mem _ hz)
    have h2 := h x (List.mem_cons_self ..)
    unfold sumsR at *
    unfold Res.ok inR at h2
    simp only [List.map_cons, List.sum_cons]
    dsimp only at *
    omega
theorem room_iff {c : Config} (hc : c.ok) {l : List Res} : roomB c l = true ↔ fitL c l := by
  have h0 : (⟨0, 0, 0⟩ : Res).ok := by decide
  have e : (⟨0, 0, 0⟩ : Res).add (sumsR l) = sumsR l := by unfold Res.add; simp
  unfold roomB fitL
  cases h : sumR ⟨0, 0, 0⟩ l with
  | none =>
    dsimp only
    constructor
    · nofun
    · rintro ⟨h1, h2⟩
      exfalso
      have h3 := sums_pos h1
      have h4 := (sum_some l _ h0 (sumsR l)).2 ⟨h1, by
        have := hc.1
        generalize sumsR l = z at *
        unfold Res.ok Res.le inR at *
        omega, e.symm⟩
      rw [h] at h4
      cases h4
  | some y =>
    dsimp only
    rw [decide_eq_true_iff]
    obtain ⟨h1, h2, h3⟩ := (sum_some l _ h0 y).1 h
    rw [h3, e]
    exact ⟨fun h => ⟨h1, h⟩, fun h => h.2⟩
theorem fit_sub {c : Config} {l m : List Res} (h : m.Sublist l) (hl : fitL c l) : fitL c m := by
  refine ⟨fun r hr => hl.1 r (h.subset hr), ?_⟩
  obtain ⟨h1, h2⟩ := hl
  have key : (sumsR m).le (sumsR l) := by
    clear h2
    induction h with
    | slnil => exact ⟨Int.le_refl _, Int.le_refl _, Int.le_refl _⟩
    | cons a h ih =>
      have h3 := ih fun x hx => h1 x (List.mem_cons_of_mem _ hx)
      have h4 := h1 a (List.mem_cons_self ..)
      unfold sumsR Res.le Res.ok inR at *
      simp only [List.map_cons, List.sum_cons]
      dsimp only at *
      omega
    | cons_cons a h ih =>
      have h3 := ih fun x hx => h1 x (List.mem_cons_of_mem _ hx)
      unfold sumsR Res.le at *
      simp only [List.map_cons, List.sum_cons]
      dsimp only at *
      omega
  unfold Res.le at *
  omega
theorem sum_perm {l m : List Int} (h : l.Perm m) : l.sum = m.sum := by
  induction h with
  | nil => rfl
  | cons a h ih => simp [ih]
  | swap a b l => simp; omega
  | trans h1 h2 i1 i2 => exact i1.trans i2
theorem fit_perm {c : Config} {l m : List Res} (h : m.Perm l) (hl : fitL c l) : fitL c m := by
  refine ⟨fun r hr => hl.1 r (h.subset hr), ?_⟩
  have e : sumsR m = sumsR l := by
    unfold sumsR
    rw [sum_perm (h.map Res.cpu), sum_perm (h.map Res.mem), sum_perm (h.map Res.disk)]
  rw [e]
  exact hl.2
/-- A valid state, by its lists. -/
structure StL (c : Config) (s : State) : Prop where
  ep : inR s.epoch 0 mT
  nx : inR s.next 1 mT
  lv : inR s.lives 1 mT
  ak : inR s.ack (-1) mT
  len : (s.allocs.length : Int) ≤ c.allocs
  near : s.allocs.Pairwise nearA
  incs : (incsL s.allocs).Nodup
  each : ∀ a ∈ s.allocs, allocOk c s a
  fit : fitL c (usedR s.allocs)
  dis : (usedP s.allocs).Pairwise fun a b => meetF b a = []
open Classical in
theorem stOk_iff {c : Config} (hc : c.ok) {s : State} : stOk c s ↔ StL c s := by
  unfold stOk apartOk pdisB
  rw [room_iff hc, decide_eq_true_iff, pdis_pw, forall_getD (P := allocOk c s)]
  rw [show (∀ i, i < s.allocs.length → ∀ k, k < i → pairOk s i k) ↔ s.allocs.Pairwise nearA from pw_getD (R := nearA)]
  constructor
  · rintro ⟨h1, h2, h3, h4, h5, ⟨h6, h7⟩, h8, h9, h10⟩
    exact ⟨h1, h2, h3, h4, h5, h6, h7, h8, h9, h10⟩
  · rintro ⟨h1, h2, h3, h4, h5, h6, h7, h8, h9, h10⟩
    exact ⟨h1, h2, h3, h4, h5, ⟨h6, h7⟩, h8, h9, h10⟩
theorem stE_iff {c : Config} {s : State} : stE c s = 0 ↔ c.ok ∧ StL c s := by
  constructor
  · intro h
    obtain ⟨h1, h2⟩ := stE_0 h
    exact ⟨h1, (stOk_iff h1).1 h2⟩
  · rintro ⟨h1, h2⟩
    unfold stE
    rw [if_neg (not_not_intro h1), if_pos ((stOk_iff h1).2 h2)]
theorem allTk_iff {a : Alloc} {n : Int} : allTk a n ↔ ∀ t ∈ a.tasks, tkOk a n t := forall_getD (P := tkOk a n)
/-- All numbers of states are not negative. -/
def posS (s : State) : Prop := ∀ a ∈ s.allocs, ∀ t ∈ a.tasks, 0 ≤ t.state
theorem default_task_state : (default : Task).state = 0 := rfl
theorem pos_iff {s : State} : posS s ↔ s.wfS := by
  unfold posS State.wfS
  constructor
  · intro h i j
    by_cases hi : i < s.allocs.length
    · by_cases hj : j < (s.allocs.getD i default).tasks.length
      · exact forall_getD.2 (h _ (by rw [List.getD_eq_getElem?_getD, List.getElem?_eq_getElem hi]; exact List.getElem_mem hi)) j hj
      · rw [List.getD_eq_getElem?_getD (l := (s.allocs.getD i default).tasks), List.getElem?_eq_none (by omega)]
        exact Int.le_refl _
    · rw [List.getD_eq_getElem?_getD (l := s.allocs), List.getElem?_eq_none (by omega)]
      rw [List.getD_eq_getElem?_getD, List.getElem?_eq_none (Nat.zero_le _)]
      exact Int.le_refl _
  · intro h
    refine forall_getD.1 fun i _ => forall_getD.1 fun j _ => h i j
theorem incsL_app (l m : List Alloc) : incsL (l ++ m) = incsL l ++ incsL m := by simp [incsL]
theorem incsL_cons (a : Alloc) (m : List Alloc) : incsL (a :: m) = incsA a a.tasks.length ++ incsL m := by simp [incsL]
theorem incsA_all (a : Alloc) : incsA a a.tasks.length = (a.tasks.map Task.inc).filter fun n => n ≠ 0 := by unfold incsA; rw [List.take_length]
theorem mem_incs {l : List Alloc} {n : Int} : n ∈ incsL l ↔ ∃ a ∈ l, ∃ t ∈ a.tasks, t.inc = n ∧ n ≠ 0 := by
  unfold incsL
  rw [List.mem_flatten]
  constructor
  · rintro ⟨m, hm, hn⟩
    obtain ⟨a, ha, rfl⟩ := List.mem_map.1 hm
    rw [incsA_all, List.mem_filter] at hn
    obtain ⟨h1, h2⟩ := hn
    obtain ⟨t, ht, rfl⟩ := List.mem_map.1 h1
    exact ⟨a, ha, t, ht, rfl, by simpa using h2⟩
  · rintro ⟨a, ha, t, ht, rfl, h0⟩
    exact ⟨_, List.mem_map.2 ⟨a, ha, rfl⟩, by rw [incsA_all, List.mem_filter]; exact ⟨List.mem_map.2 ⟨t, ht, rfl⟩, by simpa using h0⟩⟩
theorem over_iff {a : Alloc} : a.over ↔ ∀ t ∈ a.tasks, overT t.state := forall_getD (P := fun t : Task => overT t.state)
open Classical in
theorem overB_iff {a : Alloc} : overB a = true ↔ ∀ t ∈ a.tasks, overT t.state := by unfold overB; rw [decide_eq_true_iff, over_iff]
open Classical in
theorem overB_no {a : Alloc} : overB a = false ↔ ∃ t ∈ a.tasks, ¬ overT t.state := by
  unfold overB; rw [decide_eq_false_iff_not, over_iff]; simp
theorem live_mid (L R : List Alloc) (a : Alloc) : live (L ++ a :: R) = live L ++ ((if overB a = true then [] else [a]) ++ live R) := by
  unfold live
  rw [List.filter_append, List.filter_cons]
  congr 1
  cases overB a <;> simp
theorem live_app (L R : List Alloc) : live (L ++ R) = live L ++ live R := by unfold live; rw [List.filter_append]
theorem tkOk_mono {a : Alloc} {n m : Int} {t : Task} (h : n ≤ m) (ht : tkOk a n t) : tkOk a m t := ⟨ht.1, by have := ht.2.1; omega, ht.2.2⟩
theorem allocOk_mono {c : Config} {s s' : State} {a : Alloc} (hn : s.next ≤ s'.next) (hl : s.lives ≤ s'.lives) (h : allocOk c s a) : allocOk c s' a := by
  obtain ⟨h1, h2, h3, h4, h5, h6, h7⟩ := h
  exact ⟨h1, h2, by omega, h4, h5, h6, fun j hj => tkOk_mono hn (h7 j hj)⟩
/-- One allocation changes. -/
theorem keep_set {c : Config} {s s' : State} {L R : List Alloc} {a a' : Alloc} (h : StL c s) (e : s.allocs = L ++ a :: R) (e' : s'.allocs = L ++ a' :: R)
    (hep : inR s'.epoch 0 mT) (hnx : s.next ≤ s'.next ∧ s'.next ≤ mT) (hlv : s'.lives = s.lives) (hak : s'.ack = s.ack)
    (h1 : a'.spec = a.spec) (h2 : a'.life = a.life) (h3 : a'.slot = a.slot) (h4 : a'.tasks.length = a.tasks.length) (h5 : ∀ t ∈ a'.tasks, tkOk a' s'.next t) (hin : (incsL (L ++ a' :: R)).Nodup) (hov : overB a = false) : StL c s' := by
  obtain ⟨g1, g2, g3, g4, g5, g6, g7, g8, g9, g10⟩ := h
  rw [e] at g5 g6 g7 g8 g9 g10
  have sub : (live (L ++ a' :: R)).map (fun a => a.spec) |>.Sublist ((live (L ++ a :: R)).map fun a => a.spec) := by
    rw [live_mid, live_mid, hov]
    simp only [List.map_append]
    refine List.Sublist.append (List.Sublist.refl _) (List.Sublist.append ?_ (List.Sublist.refl _))
    cases overB a' <;> simp [h1]
  refine ⟨hep, ⟨by have := g2.1; omega, hnx.2⟩, by rw [hlv]; exact g3, by rw [hak]; exact g4, ?_, ?_, by rw [e']; exact hin, ?_, ?_, ?_⟩
  · rw [e']; simpa using g5
  · rw [e']
    rw [List.pairwise_append, List.pairwise_cons] at g6 ⊢
    obtain ⟨p1, ⟨p2, p3⟩, p4⟩ := g6
    refine ⟨p1, ⟨fun b hb => ?_, p3⟩, fun b hb d hd => ?_⟩
    · have := p2 b hb; unfold nearA at *; rw [h1, h2, h3]; exact this
    · rcases List.mem_cons.1 hd with rfl | hd
      · have := p4 b hb a (List.mem_cons_self ..); unfold nearA at *; rw [h1, h2, h3]; exact this
      · exact p4 b hb d (List.mem_cons_of_mem _ hd)
  · rw [e']
    intro b hb
    have hmono : ∀ b, allocOk c s b → allocOk c s' b := fun b hb => allocOk_mono hnx.1 (by omega) hb
    rcases List.mem_append.1 hb with hb | hb
    · exact hmono b (g8 b (List.mem_append_left _ hb))
    rcases List.mem_cons.1 hb with rfl | hb
    · obtain ⟨q1, q2, q3, q4, q5, q6, q7⟩ := g8 a (List.mem_append_right _ (List.mem_cons_self ..))
      exact ⟨by rw [h1]; exact q1, by rw [h2]; exact q2, by rw [h2]; omega, by rw [h3]; exact q4, by rw [h3]; exact q5, by rw [h4, h1]; exact q6, allTk_iff.2 h5⟩
    · exact hmono b (g8 b (List.mem_append_right _ (List.mem_cons_of_mem _ hb)))
  · rw [e']
    have := sub.map (fun x : Spec => x.res)
    rw [List.map_map, List.map_map] at this
    exact fit_sub this g9
  · rw [e']
    have := sub.map (fun x : Spec => x.ports)
    rw [List.map_map, List.map_map] at this
    exact g10.sublist this
theorem find_ok {s : State} {id : Int} (h : ¬ findG s.allocs id 0 < 0) : ∃ i : Nat, findG s.allocs id 0 = i ∧ i < s.allocs.length ∧ (s.allocs.getD i default).spec.id = id := by
  rcases findG_spec (s := s) (id := id) 0 (Nat.zero_le _) with ⟨i, h1, h2, h3, h4, h5⟩ | ⟨h1, h2⟩
  · exact ⟨i, h3, h2, h4⟩
  · rw [List.drop_zero] at h1; omega
theorem mem_at {α : Type} [Inhabited α] {l : List α} {i : Nat} (h : i < l.length) : l.getD i default ∈ l := by
  rw [List.getD_eq_getElem?_getD, List.getElem?_eq_getElem h]; exact List.getElem_mem h
theorem filter_mid {l r : List Int} {n m : Int} : ((l ++ n :: r).filter fun n => n ≠ 0) = (l.filter fun n => n ≠ 0) ++ (if n ≠ 0 then [n] else []) ++ (r.filter fun n => n ≠ 0) := by
  rw [List.filter_append, List.filter_cons]
  by_cases c : n = 0 <;> simp [c]
theorem turn_keeps {c : Config} {s : State} {r : Rec} (h : StL c s) (hp : posS s) (hk : 4 ≤ r.kind ∧ r.kind ≤ 8) (hz : (doTurn s r).1 = 0) : StL c (doTurn s r).2 ∧ posS (doTurn s r).2 := by
  unfold doTurn at hz ⊢
  by_cases hi : findG s.allocs r.id 0 < 0
  · rw [if_pos hi] at hz; exact absurd hz (show (6 : Int) ≠ 0 by omega)
  rw [if_neg hi] at hz ⊢
  obtain ⟨i, e1, e2, e3⟩ := find_ok hi
  dsimp only at hz ⊢
  rw [show s.at (findG s.allocs r.id 0) = s.allocs.getD i default by unfold State.at; rw [e1, toNat_nat]] at hz ⊢
  rw [e1, toNat_nat]
  have e4 := split_at e2
  have ha := mem_at e2
  generalize s.allocs.getD i default = a at *
  by_cases h1 : r.task < 0 ∨ (a.tasks.length : Int) ≤ r.task ∨ (r.kind = 4 ∧ s.next = mT)
  · rw [if_pos h1] at hz; exact absurd hz (show (3 : Int) ≠ 0 by omega)
  rw [if_neg h1] at hz ⊢
  by_cases h2 : (turnT s a (a.tk r.task) (a.pol r.task) r).1 ≠ 0
  · rw [if_pos h2] at hz; exact absurd hz h2
  rw [if_neg h2]
  have h2' := Classical.not_not.1 h2
  have hk2 : r.task.toNat < a.tasks.length := by omega
  have ht : a.tk r.task ∈ a.tasks := mem_at hk2
  obtain ⟨q1, q2, q3, q4, q5, q6, q7⟩ := h.each a ha
  have tk := allTk_iff.1 q7 _ ht
  have ok := turn_ok (s := s) (r := r) (p := a.pol r.task) tk.1 (hp a ha _ ht) tk.2.2 h2'
  have es := setAt (l := a.tasks) hk2 (turnT s a (a.tk r.task) (a.pol r.task) r).2
  have et := split_at hk2
  rw [show a.tasks.getD r.task.toNat default = a.tk r.task from rfl] at et
  generalize turnT s a (a.tk r.task) (a.pol r.task) r = z at *
  generalize a.tk r.task = t at *
  generalize a.tasks.take r.task.toNat = TL at *
  generalize a.tasks.drop (r.task.toNat + 1) = TR at *
  have hnx : s.next ≤ (if r.kind = 4 then s.next + 1 else s.next) ∧ (if r.kind = 4 then s.next + 1 else s.next) ≤ mT := by
    have := h.nx; unfold inR at this
    split <;> omega
  have hmem : ∀ x ∈ TL ++ z.2 :: TR, x = z.2 ∨ x ∈ a.tasks := fun x hx => by
    rw [et]
    rcases List.mem_append.1 hx with h3 | h3
    · exact .inr (List.mem_append_left _ h3)
    rcases List.mem_cons.1 h3 with rfl | h3
    · exact .inl rfl
    · exact .inr (List.mem_append_right _ (List.mem_cons_of_mem _ h3))
  have hset := setAt e2 (a.put a.stop (a.tasks.set r.task.toNat z.2))
  have hz2 : z.2.inc < (if r.kind = 4 then s.next + 1 else s.next) := by
    rw [ok.inc]
    have := tk.2.1
    split <;> omega
  refine ⟨keep_set (s' := ⟨s.epoch, if r.kind = 4 then s.next + 1 else s.next, s.lives, s.ack, _⟩) h e4 hset h.ep hnx rfl rfl rfl rfl rfl (by show (a.tasks.set _ _).length = _; rw [List.length_set]) ?_ ?_ ?_, ?_⟩
  · intro x hx
    have hx2 : x ∈ TL ++ z.2 :: TR := by rw [← es]; exact hx
    rcases hmem x hx2 with rfl | hx3
    · exact ⟨ok.good, hz2, ok.ends⟩
    · exact tkOk_mono (a := a) hnx.1 (allTk_iff.1 q7 x hx3)
  · have hi0 := h.incs
    rw [e4, incsL_app, incsL_cons, incsA_all, et, List.map_append, List.map_cons, filter_mid (m := 0)] at hi0
    rw [incsL_app, incsL_cons, incsA_all, show (a.put a.stop (a.tasks.set r.task.toNat z.2)).tasks = TL ++ z.2 :: TR from es, List.map_append, List.map_cons, filter_mid (m := 0)]
    have hall : ∀ n, n ∈ incsL (s.allocs.take i) ∨ n ∈ incsL (s.allocs.drop (i + 1)) ∨ n ∈ (TL.map Task.inc).filter (fun n => n ≠ 0) ∨ n ∈ (TR.map Task.inc).filter (fun n => n ≠ 0) → n < s.next := fun n hn => by
      have hn2 : n ∈ incsL s.allocs := by
        rw [e4, incsL_app, incsL_cons, incsA_all, et, List.map_append, List.map_cons, filter_mid (m := 0)]
        simp only [List.mem_append]
        rcases hn with hn | hn | hn | hn
        · exact .inl hn
        · exact .inr (.inr hn)
        · exact .inr (.inl (.inl (.inl hn)))
        · exact .inr (.inl (.inr hn))
      obtain ⟨b, hb, u, hu, rfl, _⟩ := mem_incs.1 hn2
      exact (allTk_iff.1 (h.each b hb).2.2.2.2.2.2 u hu).2.1
    by_cases k4 : r.kind = 4
    · have ei : z.2.inc = s.next := by rw [ok.inc, if_pos k4]
      rw [ei]
      generalize incsL (s.allocs.take i) = A at *
      generalize incsL (s.allocs.drop (i + 1)) = B at *
      generalize (TL.map Task.inc).filter (fun n => n ≠ 0) = C at *
      generalize (TR.map Task.inc).filter (fun n => n ≠ 0) = D at *
      have h0 : s.next ≠ 0 := by have := h.nx.1; omega
      rw [if_pos h0]
      have sub : (A ++ (C ++ D ++ B)).Sublist (A ++ (C ++ (if t.inc ≠ 0 then [t.inc] else []) ++ D ++ B)) := by
        refine List.Sublist.append (List.Sublist.refl _) (List.Sublist.append (List.Sublist.append ?_ (List.Sublist.refl _)) (List.Sublist.refl _))
        exact List.sublist_append_left ..
      have h5 := hi0.sublist sub
      have h6 : (A ++ (C ++ [s.next] ++ D ++ B)).Perm (s.next :: (A ++ (C ++ D ++ B))) := by
        have : A ++ (C ++ [s.next] ++ D ++ B) = (A ++ C) ++ s.next :: (D ++ B) := by simp
        rw [this]
        refine List.perm_middle.trans ?_
        rw [show A ++ (C ++ D ++ B) = A ++ C ++ (D ++ B) by simp]
      rw [h6.nodup_iff, List.nodup_cons]
      refine ⟨fun hm => ?_, h5⟩
      have := hall s.next (by
        simp only [List.mem_append] at hm
        rcases hm with hm | (hm | hm) | hm
        · exact .inl hm
        · exact .inr (.inr (.inl hm))
        · exact .inr (.inr (.inr hm))
        · exact .inr (.inl hm))
      omega
    · have ei : z.2.inc = t.inc := by rw [ok.inc, if_neg k4]
      rw [ei]
      exact hi0
  · exact overB_no.2 ⟨t, ht, ok.live⟩
  · intro b hb x hx
    show 0 ≤ x.state
    rw [hset] at hb
    rcases List.mem_append.1 hb with hb | hb
    · exact hp b (by rw [e4]; exact List.mem_append_left _ hb) x hx
    rcases List.mem_cons.1 hb with rfl | hb
    · have hx2 : x ∈ TL ++ z.2 :: TR := by rw [← es]; exact hx
      rcases hmem x hx2 with rfl | hx3
      · exact ok.pos
      · exact hp a ha x hx3
    · exact hp b (by rw [e4]; exact List.mem_append_right _ (List.mem_cons_of_mem _ hb)) x hx
theorem stop_keeps {c : Config} {s : State} {r : Rec} (h : StL c s) (hp : posS s) (hg : r.rng) (hz : (doStopS s r).1 = 0) : StL c (doStopS s r).2 ∧ posS (doStopS s r).2 := by
  unfold doStopS at hz ⊢
  by_cases h0 : r.epoch < s.epoch
  · rw [if_pos h0] at hz; exact absurd hz (show (13 : Int) ≠ 0 by omega)
  rw [if_neg h0] at hz ⊢
  by_cases hi : findG s.allocs r.id 0 < 0
  · rw [if_pos hi] at hz; exact absurd hz (show (6 : Int) ≠ 0 by omega)
  rw [if_neg hi] at hz ⊢
  obtain ⟨i, e1, e2, e3⟩ := find_ok hi
  rw [show s.at (findG s.allocs r.id 0) = s.allocs.getD i default by unfold State.at; rw [e1, toNat_nat]] at hz ⊢
  rw [e1, toNat_nat]
  have e4 := split_at e2
  have ha := mem_at e2
  generalize s.allocs.getD i default = a at *
  by_cases h1 : a.stop = true ∨ overB a = true
  · rw [if_pos h1] at hz; exact absurd hz (show (7 : Int) ≠ 0 by omega)
  rw [if_neg h1]
  have hst : a.stop = false := by
    cases hs : a.stop with
    | false => rfl
    | true => exact absurd (.inl hs) h1
  have hov : overB a = false := by
    cases hs : overB a with
    | false => rfl
    | true => exact absurd (.inr hs) h1
  obtain ⟨q1, q2, q3, q4, q5, q6, q7⟩ := h.each a ha
  have hset := setAt e2 (a.put true (a.tasks.map (stop1 (r.tick + r.wait))))
  have hn : inR (r.tick + r.wait) 0 (2 * mT) := by
    have h1 := hg.2.2.2.1
    have h2 := hg.2.2.2.2.1
    unfold inR mT at *
    omega
  have key : ∀ t ∈ a.tasks, _ := fun t ht => stop1_ok (t := t) (n := r.tick + r.wait) (allTk_iff.1 q7 t ht).1 (hp a ha t ht) ((allTk_iff.1 q7 t ht).2.2.2 hst) hn
  refine ⟨keep_set (s' := ⟨r.epoch, s.next, s.lives, s.ack, _⟩) h e4 hset hg.1 ⟨Int.le_refl _, h.nx.2⟩ rfl rfl rfl rfl rfl (by show (a.tasks.map _).length = _; rw [List.length_map]) ?_ ?_ hov, ?_⟩
  · intro x hx
    obtain ⟨t, ht, rfl⟩ := List.mem_map.1 (show x ∈ a.tasks.map _ from hx)
    obtain ⟨k1, k2, k3, k4⟩ := key t ht
    exact ⟨k1, by rw [k4]; exact (allTk_iff.1 q7 t ht).2.1, fun _ => k3, nofun⟩
  · have e5 : incsL (s.allocs.take i ++ a.put true (a.tasks.map (stop1 (r.tick + r.wait))) :: s.allocs.drop (i + 1)) = incsL (s.allocs.take i ++ a :: s.allocs.drop (i + 1)) := by
      rw [incsL_app, incsL_app, incsL_cons, incsL_cons, incsA_all, incsA_all]
      congr 3
      show (a.tasks.map _).map Task.inc = _
      rw [List.map_map]
      refine List.map_congr_left fun t ht => (key t ht).2.2.2
    rw [e5, ← e4]
    exact h.incs
  · intro b hb x hx
    show 0 ≤ x.state
    rw [hset] at hb
    rcases List.mem_append.1 hb with hb | hb
    · exact hp b (by rw [e4]; exact List.mem_append_left _ hb) x hx
    rcases List.mem_cons.1 hb with rfl | hb
    · obtain ⟨t, ht, rfl⟩ := List.mem_map.1 (show x ∈ a.tasks.map _ from hx)
      exact (key t ht).2.1
    · exact hp b (by rw [e4]; exact List.mem_append_right _ (List.mem_cons_of_mem _ hb)) x hx
theorem usedR_app (l m : List Alloc) : usedR (l ++ m) = usedR l ++ usedR m := by simp [usedR, live]
theorem forget_keeps {c : Config} {s : State} {r : Rec} (h : StL c s) (hp : posS s) (hg : r.rng) (hz : (doForget s r).1 = 0) : StL c (doForget s r).2 ∧ posS (doForget s r).2 := by
  unfold doForget at hz ⊢
  by_cases h0 : r.epoch < s.epoch
  · rw [if_pos h0] at hz; exact absurd hz (show (13 : Int) ≠ 0 by omega)
  rw [if_neg h0] at hz ⊢
  by_cases hi : findG s.allocs r.id 0 < 0
  · rw [if_pos hi] at hz; exact absurd hz (show (6 : Int) ≠ 0 by omega)
  rw [if_neg hi] at hz ⊢
  obtain ⟨i, e1, e2, e3⟩ := find_ok hi
  rw [e1, toNat_nat, erase_at] at hz ⊢
  by_cases h1 : overB (s.at i) = false
  · rw [if_pos h1] at hz; exact absurd hz (show (7 : Int) ≠ 0 by omega)
  rw [if_neg h1]
  have sub : (s.allocs.take i ++ s.allocs.drop (i + 1)).Sublist s.allocs := by
    conv => rhs; rw [split_at e2]
    exact List.Sublist.append (List.Sublist.refl _) (List.sublist_cons_self ..)
  obtain ⟨g1, g2, g3, g4, g5, g6, g7, g8, g9, g10⟩ := h
  generalize s.allocs.take i ++ s.allocs.drop (i + 1) = m at *
  have lv : (live m).Sublist (live s.allocs) := sub.filter _
  refine ⟨⟨hg.1, g2, g3, g4, ?_, g6.sublist sub, ?_, fun a ha => g8 a (sub.subset ha), fit_sub (lv.map _) g9, g10.sublist (lv.map _)⟩, fun a ha => hp a (sub.subset ha)⟩
  · have := sub.length_le
    show (m.length : Int) ≤ _
    omega
  · refine g7.sublist ?_
    clear lv g6 g8 g9 g10 g5 e2 hz h1 e1 e3 hi h0 g1 g2 g3 g4 hg hp
    show (incsL m).Sublist (incsL s.allocs)
    revert sub
    generalize s.allocs = l
    intro sub
    clear g7
    induction sub with
    | slnil => exact List.Sublist.refl _
    | cons a h ih => rw [incsL_cons]; exact ih.trans (List.sublist_append_right ..)
    | cons_cons a h ih => rw [incsL_cons, incsL_cons]; exact List.Sublist.append (List.Sublist.refl _) ih
theorem ack_keeps {c : Config} {s : State} {r : Rec} (h : StL c s) (hp : posS s) (hg : r.rng) (hz : (doAck s r).1 = 0) : StL c (doAck s r).2 ∧ posS (doAck s r).2 := by
  unfold doAck at hz ⊢
  by_cases h0 : r.tick ≤ s.ack
  · rw [if_pos h0] at hz; exact absurd hz (show (7 : Int) ≠ 0 by omega)
  rw [if_neg h0]
  obtain ⟨g1, g2, g3, g4, g5, g6, g7, g8, g9, g10⟩ := h
  exact ⟨⟨g1, g2, g3, ⟨by have := hg.2.2.2.1.1; show _ ≤ r.tick; omega, hg.2.2.2.1.2⟩, g5, g6, g7, g8, g9, g10⟩, hp⟩
theorem slotF_spec (l : List Alloc) : ∀ (f : Nat) (n : Int), n ≤ slotF l f n ∧ slotF l f n ≤ n + f ∧ (∀ m, n ≤ m → m < slotF l f n → ∃ a ∈ l, a.slot = m) ∧ (slotF l f n < n + f → ∀ a ∈ l, a.slot ≠ slotF l f n) := by
  intro f
  induction f with
  | zero => intro n; exact ⟨Int.le_refl _, by unfold slotF; omega, fun m h1 h2 => by unfold slotF at h2; omega, fun h => by unfold slotF at h; omega⟩
  | succ f ih =>
    intro n
    unfold slotF
    by_cases c : ∃ a ∈ l, a.slot = n
    · rw [if_pos c]
      obtain ⟨h1, h2, h3, h4⟩ := ih (n + 1)
      refine ⟨by omega, by omega, fun m hm hm2 => ?_, fun h => h4 (by omega)⟩
      by_cases e : m = n
      · rw [e]; exact c
      · exact h3 m (by omega) hm2
    · rw [if_neg c]
      exact ⟨Int.le_refl _, by omega, fun m h1 h2 => by omega, fun _ a ha e => c ⟨a, ha, e⟩⟩
theorem nodup_len : ∀ (l m : List Int), l.Nodup → (∀ x ∈ l, x ∈ m) → l.length ≤ m.length := by
  intro l
  induction l with
  | nil => intro m _ _; exact Nat.zero_le _
  | cons a l ih =>
    intro m hn hm
    rw [List.nodup_cons] at hn
    have ha := hm a (List.mem_cons_self ..)
    have := ih (m.erase a) hn.2 fun x hx => (List.mem_erase_of_ne (fun e => hn.1 (by subst e; exact hx))).2 (hm x (List.mem_cons_of_mem _ hx))
    rw [List.length_erase_of_mem ha] at this
    have : 0 < m.length := List.length_pos_of_mem ha
    simp only [List.length_cons]
    omega
/-- Among few there is a free place. -/
theorem slot_lt (l : List Alloc) (n : Nat) (h : ∀ m : Nat, m < n → ∃ a ∈ l, a.slot = m) : n ≤ l.length := by
  have h1 : ∀ m ∈ (List.range n).map (fun m : Nat => (m : Int)), m ∈ l.map Alloc.slot := fun m hm => by
    obtain ⟨k, hk, rfl⟩ := List.mem_map.1 hm
    obtain ⟨a, ha, e⟩ := h k (List.mem_range.1 hk)
    exact List.mem_map.2 ⟨a, ha, e⟩
  have h2 : ((List.range n).map fun m : Nat => (m : Int)).Nodup := by
    unfold List.Nodup
    rw [List.pairwise_map]
    exact List.nodup_range.imp fun h => by omega
  have := nodup_len _ _ h2 h1
  simpa using this
theorem takeWhile_all {α : Type} {p : α → Bool} (l : List α) : ∀ a ∈ l.takeWhile p, p a = true := by
  induction l with
  | nil => intro a ha; simp at ha
  | cons b l ih =>
    intro a ha
    rw [List.takeWhile_cons] at ha
    split at ha
    · rename_i hb
      rcases List.mem_cons.1 ha with rfl | ha
      · exact hb
      · exact ih a ha
    · simp at ha
theorem take_posA (l : List Alloc) (id : Int) : l.take (posA l id) = l.takeWhile fun a => decide (a.spec.id < id) := by
  unfold posA
  conv => lhs; arg 2; rw [← List.takeWhile_append_dropWhile (p := fun a : Alloc => decide (a.spec.id < id)) (l := l)]
  rw [List.take_append_of_le_length (Nat.le_refl _), List.take_length]
theorem drop_posA (l : List Alloc) (id : Int) : l.drop (posA l id) = l.dropWhile fun a => decide (a.spec.id < id) := by
  unfold posA
  conv => lhs; arg 2; rw [← List.takeWhile_append_dropWhile (p := fun a : Alloc => decide (a.spec.id < id)) (l := l)]
  rw [List.drop_append_of_le_length (Nat.le_refl _), List.drop_length, List.nil_append]
theorem find_no {s : State} {id : Int} (h : ¬ 0 ≤ findG s.allocs id 0) : ∀ a ∈ s.allocs, a.spec.id ≠ id := by
  rcases findG_spec (s := s) (id := id) 0 (Nat.zero_le _) with ⟨i, h1, h2, h3, h4, h5⟩ | ⟨h1, h2⟩
  · rw [List.drop_zero] at h3; omega
  · exact forall_getD.1 fun i hi => h2 i (Nat.zero_le _) hi
theorem dropWhile_gt {l : List Alloc} {id : Int} (hp : l.Pairwise nearA) (hn : ∀ a ∈ l, a.spec.id ≠ id) : ∀ a ∈ l.dropWhile (fun a => decide (a.spec.id < id)), id < a.spec.id := by
  induction l with
  | nil => intro a ha; simp at ha
  | cons b l ih =>
    rw [List.pairwise_cons] at hp
    intro a ha
    rw [List.dropWhile_cons] at ha
    by_cases c : b.spec.id < id
    · rw [if_pos (decide_eq_true c)] at ha
      exact ih hp.2 (fun x hx => hn x (List.mem_cons_of_mem _ hx)) a ha
    · rw [if_neg (by simpa using c)] at ha
      have hb : id < b.spec.id := by have := hn b (List.mem_cons_self ..); omega
      rcases List.mem_cons.1 ha with rfl | ha
      · exact hb
      · have := (hp.1 a ha).2.2; omega
theorem mem_rep {n : Nat} {t : Task} (h : t ∈ List.replicate n (default : Task)) : t = default := (List.mem_replicate.1 h).2
theorem errT_default : errT default = 0 := errT_0.2 ⟨by decide, by decide, by decide, by decide, ⟨fun _ => rfl, fun _ => rfl⟩, nofun, fun _ => ⟨rfl, rfl⟩, fun _ => .inl rfl, .inl rfl, .inl rfl, .inl rfl, .inl rfl⟩
theorem newA_incs (s : State) (x : Spec) : incsA (newA s x) (newA s x).tasks.length = [] := by
  rw [incsA_all]
  show ((List.replicate x.tasks.length (default : Task)).map Task.inc).filter (fun n => n ≠ 0) = []
  rw [List.filter_eq_nil_iff]
  intro n hn
  obtain ⟨t, ht, rfl⟩ := List.mem_map.1 hn
  rw [mem_rep ht]
  decide
theorem newA_live {s : State} {x : Spec} (h : 1 ≤ x.tasks.length) : overB (newA s x) = false := by
  refine overB_no.2 ⟨default, ?_, by decide⟩
  show default ∈ List.replicate x.tasks.length (default : Task)
  exact List.mem_replicate.2 ⟨by omega, rfl⟩
theorem place_ok {c : Config} {s : State} {r : Rec} (hz : (doPlace c s r).1 = 0) : s.epoch ≤ r.epoch ∧ (∀ a ∈ s.allocs, a.spec.id ≠ r.spec.id) ∧ (s.allocs.length : Int) < c.allocs ∧ roomB c (r.spec.res :: usedR s.allocs) = true ∧ (∀ y ∈ usedP s.allocs, meetF r.spec.ports y = []) ∧ s.lives ≠ mT ∧
    doPlace c s r = (0, ⟨r.epoch, s.next, s.lives + 1, s.ack, s.allocs.take (posA s.allocs r.spec.id) ++ newA s r.spec :: s.allocs.drop (posA s.allocs r.spec.id)⟩) := by
  unfold doPlace at hz ⊢
  by_cases h0 : r.epoch < s.epoch
  · rw [if_pos h0] at hz; exact absurd hz (show (13 : Int) ≠ 0 by omega)
  rw [if_neg h0] at hz ⊢
  by_cases hi : 0 ≤ findG s.allocs r.spec.id 0
  · rw [if_pos hi] at hz; exact absurd hz (show (8 : Int) ≠ 0 by omega)
  rw [if_neg hi] at hz ⊢
  by_cases h1 : c.allocs ≤ s.allocs.length ∨ roomB c (r.spec.res :: usedR s.allocs) = false
  · rw [if_pos h1] at hz; exact absurd hz (show (9 : Int) ≠ 0 by omega)
  rw [if_neg h1] at hz ⊢
  by_cases h2 : ∃ y ∈ usedP s.allocs, meetF r.spec.ports y ≠ []
  · rw [if_pos h2] at hz; exact absurd hz (show (7 : Int) ≠ 0 by omega)
  rw [if_neg h2] at hz ⊢
  by_cases h3 : s.lives = mT
  · rw [if_pos h3] at hz; exact absurd hz (show (3 : Int) ≠ 0 by omega)
  rw [if_neg h3]
  refine ⟨by omega, find_no hi, ?_, ?_, ?_, h3, rfl⟩
  · exact Classical.not_not.1 fun hn => h1 (.inl (by omega))
  · cases hb : roomB c (r.spec.res :: usedR s.allocs) with
    | true => rfl
    | false => exact absurd (.inr hb) h1
  · exact fun y hy => Classical.not_not.1 fun hn => h2 ⟨y, hy, hn⟩
theorem place_keeps {c : Config} {s : State} {r : Rec} (hc : c.ok) (h : StL c s) (hp : posS s) (hg : r.rng) (hsp : specE r.spec = 0) (hz : (doPlace c s r).1 = 0) : StL c (doPlace c s r).2 ∧ posS (doPlace c s r).2 := by
  obtain ⟨k1, k2, k3, k4, k5, k6, k7⟩ := place_ok hz
  rw [k7]
  obtain ⟨p1, p2, p3⟩ := specE_0 hsp
  rw [room_iff hc] at k4
  obtain ⟨g1, g2, g3, g4, g5, g6, g7, g8, g9, g10⟩ := h
  have hc8 : c.allocs ≤ 8 := hc.2.1.2
  have hT : ∀ a ∈ s.allocs.take (posA s.allocs r.spec.id), a.spec.id < r.spec.id := fun a ha => by
    rw [take_posA] at ha
    simpa using takeWhile_all _ a ha
  have hD : ∀ a ∈ s.allocs.drop (posA s.allocs r.spec.id), r.spec.id < a.spec.id := fun a ha => by
    rw [drop_posA] at ha
    exact dropWhile_gt g6 k2 a ha
  have e := (List.take_append_drop (posA s.allocs r.spec.id) s.allocs).symm
  obtain ⟨s1, s2, s3, s4⟩ := slotF_spec s.allocs 9 0
  have s5 := slot_lt s.allocs (slotF s.allocs 9 0).toNat fun m hm => s3 m (by omega) (by omega)
  have s6 := s4 (by omega)
  generalize s.allocs.take (posA s.allocs r.spec.id) = L at *
  generalize s.allocs.drop (posA s.allocs r.spec.id) = R at *
  have hf := newA_live (s := s) p2
  have hin := newA_incs s r.spec
  have n1 : (newA s r.spec).life = s.lives := rfl
  have n2 : (newA s r.spec).slot = slotF s.allocs 9 0 := rfl
  have n3 : (newA s r.spec).spec = r.spec := rfl
  have n4 : (newA s r.spec).tasks = List.replicate r.spec.tasks.length default := rfl
  have n5 : (newA s r.spec).stop = false := rfl
  generalize newA s r.spec = A at *
  generalize slotF s.allocs 9 0 = sl at *
  rw [e] at g5 g6 g7 g8 g9 g10 k3 k4 k5 s6 s5
  have hl : ∀ a ∈ L ++ R, a.life < s.lives := fun a ha => (g8 a ha).2.2.1
  refine ⟨⟨hg.1, g2, ⟨by have := g3.1; show 1 ≤ s.lives + 1; omega, by have := g3.2; show s.lives + 1 ≤ mT; omega⟩, g4, ?_, ?_, ?_, ?_, ?_, ?_⟩, ?_⟩
  · simp at k3 ⊢; omega
  · rw [List.pairwise_append] at g6
    show (L ++ A :: R).Pairwise nearA
    rw [List.pairwise_append, List.pairwise_cons]
    refine ⟨g6.1, ⟨fun b hb => ⟨?_, ?_, ?_⟩, g6.2.1⟩, fun b hb d hd => ?_⟩
    · rw [n1]; have := hl b (List.mem_append_right _ hb); omega
    · rw [n2]; exact fun hh => s6 b (List.mem_append_right _ hb) hh.symm
    · rw [n3]; exact hD b hb
    · rcases List.mem_cons.1 hd with rfl | hd
      · refine ⟨?_, ?_, ?_⟩
        · rw [n1]; have := hl b (List.mem_append_left _ hb); omega
        · rw [n2]; exact s6 b (List.mem_append_left _ hb)
        · rw [n3]; exact hT b hb
      · exact g6.2.2 b hb d hd
  · show (incsL (L ++ A :: R)).Nodup
    rw [incsL_app, incsL_cons, hin, List.nil_append, ← incsL_app]
    exact g7
  · intro a ha
    have hold : ∀ a ∈ L ++ R, allocOk c ⟨r.epoch, s.next, s.lives + 1, s.ack, L ++ A :: R⟩ a := fun a ha => allocOk_mono (s := s) (Int.le_refl _) (by show s.lives ≤ s.lives + 1; omega) (g8 a ha)
    rcases List.mem_append.1 (show a ∈ L ++ A :: R from ha) with ha | ha
    · exact hold a (List.mem_append_left _ ha)
    rcases List.mem_cons.1 ha with rfl | ha
    · refine ⟨by rw [n3]; exact hsp, by rw [n1]; exact g3.1, by rw [n1]; show s.lives < s.lives + 1; omega, by rw [n2]; exact s1, ?_, ?_, allTk_iff.2 fun t ht => ?_⟩
      · rw [n2]; omega
      · rw [n4, n3, List.length_replicate]
      · rw [n4] at ht
        rw [mem_rep ht]
        refine ⟨errT_default, ?_, ?_⟩
        · have := g2.1; show (0 : Int) < s.next; omega
        · rw [n5]; exact ⟨nofun, fun _ => by decide⟩
    · exact hold a (List.mem_append_right _ ha)
  · show fitL c (usedR (L ++ A :: R))
    have : (usedR (L ++ A :: R)).Perm (r.spec.res :: usedR (L ++ R)) := by
      unfold usedR
      rw [live_mid, live_app, hf]
      simp only [List.map_append, Bool.false_eq_true, if_false, List.map_cons, List.map_nil, List.singleton_append, n3]
      exact List.perm_middle
    exact fit_perm this k4
  · show (usedP (L ++ A :: R)).Pairwise _
    have : (usedP (L ++ A :: R)).Perm (r.spec.ports :: usedP (L ++ R)) := by
      unfold usedP
      rw [live_mid, live_app, hf]
      simp only [List.map_append, Bool.false_eq_true, if_false, List.map_cons, List.map_nil, List.singleton_append, n3]
      exact List.perm_middle
    rw [this.pairwise_iff (fun h => meet_comm.1 h), List.pairwise_cons]
    exact ⟨fun y hy => meet_comm.1 (k5 y hy), g10⟩
  · intro a ha t ht
    rcases List.mem_append.1 (show a ∈ L ++ A :: R from ha) with ha | ha
    · exact hp a (by rw [e]; exact List.mem_append_left _ ha) t ht
    rcases List.mem_cons.1 ha with rfl | ha
    · rw [n4] at ht
      rw [mem_rep ht]
      decide
    · exact hp a (by rw [e]; exact List.mem_append_right _ ha) t ht
/-- A good state: valid, with numbers of states that are not negative. -/
def Good (c : Config) (s : State) : Prop := stE c s = 0 ∧ s.wfS
theorem do_keeps {c : Config} {s : State} {r : Rec} (h : Good c s) (hR : recE r = 0) (hz : (doRec c s r).1 = 0) : Good c (doRec c s r).2 := by
  obtain ⟨hc, hs⟩ := stE_iff.1 h.1
  have hp := pos_iff.2 h.2
  obtain ⟨hk, hg, hsp⟩ := recE_0 hR
  have key : StL c (doRec c s r).2 ∧ posS (doRec c s r).2 := by
    unfold doRec at hz ⊢
    by_cases k1 : r.kind = 1
    · rw [if_pos k1] at hz ⊢; exact place_keeps hc hs hp hg (hsp k1) hz
    rw [if_neg k1] at hz ⊢
    by_cases k2 : r.kind = 2
    · rw [if_pos k2] at hz ⊢; exact stop_keeps hs hp hg hz
    rw [if_neg k2] at hz ⊢
    by_cases k3 : r.kind = 3
    · rw [if_pos k3] at hz ⊢; exact forget_keeps hs hp hg hz
    rw [if_neg k3] at hz ⊢
    by_cases k9 : r.kind = 9
    · rw [if_pos k9] at hz ⊢; exact ack_keeps hs hp hg hz
    rw [if_neg k9] at hz ⊢
    exact turn_keeps hs hp (by omega) hz
  exact ⟨stE_iff.2 ⟨hc, key.1⟩, pos_iff.1 key.2⟩
theorem apply_ok {c : Config} {s : State} {r : Rec} (hz : (applyF c s r).1 = 0) : stE c s = 0 ∧ recE r = 0 ∧ applyF c s r = doRec c s r := by
  unfold applyF at hz ⊢
  by_cases h1 : stE c s ≠ 0
  · rw [if_pos h1] at hz; exact absurd hz h1
  rw [if_neg h1] at hz ⊢
  by_cases h2 : recE r ≠ 0
  · rw [if_pos h2] at hz; exact absurd hz h2
  rw [if_neg h2]
  exact ⟨Classical.not_not.1 h1, Classical.not_not.1 h2, rfl⟩
/-- A record that is applied leads to a valid state again. -/
theorem apply_keeps {c : Config} {s : State} {r : Rec} (hw : s.wfS) (hz : (applyF c s r).1 = 0) : Good c (applyF c s r).2 := by
  obtain ⟨h1, h2, h3⟩ := apply_ok hz
  rw [h3] at hz ⊢
  exact do_keeps ⟨h1, hw⟩ h2 hz
theorem do_z (c : Config) (s : State) (r : Rec) (h : (doRec c s r).1 ≠ 0) : (doRec c s r).2 = zS := by
  unfold doRec at h ⊢
  by_cases k1 : r.kind = 1
  · rw [if_pos k1] at h ⊢; exact place_z c s r h
  rw [if_neg k1] at h ⊢
  by_cases k2 : r.kind = 2
  · rw [if_pos k2] at h ⊢; exact stop_z s r h
  rw [if_neg k2] at h ⊢
  by_cases k3 : r.kind = 3
  · rw [if_pos k3] at h ⊢; exact forget_z s r h
  rw [if_neg k3] at h ⊢
  by_cases k9 : r.kind = 9
  · rw [if_pos k9] at h ⊢; exact ack_z s r h
  rw [if_neg k9] at h ⊢
  exact turn_z s r h
/-- An error comes with the empty state. -/
theorem apply_z (c : Config) (s : State) (r : Rec) (h : (applyF c s r).1 ≠ 0) : (applyF c s r).2 = zS := by
  unfold applyF at h ⊢
  by_cases h1 : stE c s ≠ 0
  · rw [if_pos h1]
  rw [if_neg h1] at h ⊢
  by_cases h2 : recE r ≠ 0
  · rw [if_pos h2]
  rw [if_neg h2] at h ⊢
  exact do_z c s r h
theorem good_few {c : Config} {s : State} (h : stE c s = 0) : s.few := by
  obtain ⟨hc, hs⟩ := stE_iff.1 h
  have hc8 : c.allocs ≤ 8 := hc.2.1.2
  refine ⟨by have := hs.len; omega, fun i => ?_⟩
  by_cases hi : i < s.allocs.length
  · obtain ⟨q1, q2, q3, q4, q5, q6, q7⟩ := hs.each _ (mem_at hi)
    generalize s.allocs.getD i default = a at *
    obtain ⟨p1, p2, p3⟩ := specE_0 q1
    have p4 := checkF_len p1
    refine ⟨by omega, by omega, by omega, fun k => ?_⟩
    by_cases hk : k < a.tasks.length
    · have := (errT_0.1 (q7 k hk).1).h_len
      omega
    · rw [List.getD_eq_getElem?_getD (l := a.tasks), List.getElem?_eq_none (by omega)]
      exact Nat.zero_le _
  · rw [List.getD_eq_getElem?_getD (l := s.allocs), List.getElem?_eq_none (by omega)]
    refine ⟨Nat.zero_le _, Nat.zero_le _, Nat.zero_le _, fun k => ?_⟩
    rw [List.getD_eq_getElem?_getD, List.getElem?_eq_none (Nat.zero_le _)]
    exact Nat.zero_le _
/-- What a task's record leads to. -/
noncomputable def turnS (s : State) (i j : Nat) (r : Rec) (z : Task) : State := ⟨s.epoch, if r.kind = 4 then s.next + 1 else s.next, s.lives, s.ack, s.allocs.set i ((s.allocs.getD i default).put (s.allocs.getD i default).stop ((s.allocs.getD i default).tasks.set j z))⟩
noncomputable def turnZ (s : State) (i j : Nat) (r : Rec) : Int × Task := turnT s (s.allocs.getD i default) ((s.allocs.getD i default).tasks.getD j default) ((s.allocs.getD i default).spec.tasks.getD j default).policy r
noncomputable def stopA (a : Alloc) (n : Int) : Alloc := a.put true (a.tasks.map (stop1 n))
theorem stop_sh {s : State} {r : Rec} (hz : (doStopS s r).1 = 0) : ∃ i : Nat, i < s.allocs.length ∧ findG s.allocs r.id 0 = i ∧ (s.allocs.getD i default).spec.id = r.id ∧ s.epoch ≤ r.epoch ∧ (s.allocs.getD i default).stop = false ∧ overB (s.allocs.getD i default) = false ∧
    doStopS s r = (0, ⟨r.epoch, s.next, s.lives, s.ack, s.allocs.set i (stopA (s.allocs.getD i default) (r.tick + r.wait))⟩) := by
  unfold doStopS at hz ⊢
  by_cases h0 : r.epoch < s.epoch
  · rw [if_pos h0] at hz; exact absurd hz (show (13 : Int) ≠ 0 by omega)
  rw [if_neg h0] at hz ⊢
  by_cases hi : findG s.allocs r.id 0 < 0
  · rw [if_pos hi] at hz; exact absurd hz (show (6 : Int) ≠ 0 by omega)
  rw [if_neg hi] at hz ⊢
  obtain ⟨i, e1, e2, e3⟩ := find_ok hi
  rw [show s.at (findG s.allocs r.id 0) = s.allocs.getD i default by unfold State.at; rw [e1, toNat_nat]] at hz ⊢
  rw [e1, toNat_nat]
  refine ⟨i, e2, rfl, e3, by omega, ?_⟩
  generalize s.allocs.getD i default = a at *
  by_cases h1 : a.stop = true ∨ overB a = true
  · rw [if_pos h1] at hz; exact absurd hz (show (7 : Int) ≠ 0 by omega)
  rw [if_neg h1]
  exact ⟨by
    cases hs : a.stop with
    | false => rfl
    | true => exact absurd (.inl hs) h1, by
    cases hs : overB a with
    | false => rfl
    | true => exact absurd (.inr hs) h1, rfl⟩
theorem forget_sh {s : State} {r : Rec} (hz : (doForget s r).1 = 0) : ∃ i : Nat, i < s.allocs.length ∧ findG s.allocs r.id 0 = i ∧ (s.allocs.getD i default).spec.id = r.id ∧ s.epoch ≤ r.epoch ∧ overB (s.allocs.getD i default) = true ∧
    doForget s r = (0, ⟨r.epoch, s.next, s.lives, s.ack, s.allocs.eraseIdx i⟩) := by
  unfold doForget at hz ⊢
  by_cases h0 : r.epoch < s.epoch
  · rw [if_pos h0] at hz; exact absurd hz (show (13 : Int) ≠ 0 by omega)
  rw [if_neg h0] at hz ⊢
  by_cases hi : findG s.allocs r.id 0 < 0
  · rw [if_pos hi] at hz; exact absurd hz (show (6 : Int) ≠ 0 by omega)
  rw [if_neg hi] at hz ⊢
  obtain ⟨i, e1, e2, e3⟩ := find_ok hi
  rw [show s.at (findG s.allocs r.id 0) = s.allocs.getD i default by unfold State.at; rw [e1, toNat_nat]] at hz ⊢
  rw [e1, toNat_nat]
  refine ⟨i, e2, rfl, e3, by omega, ?_⟩
  generalize s.allocs.getD i default = a at *
  by_cases h1 : overB a = false
  · rw [if_pos h1] at hz; exact absurd hz (show (7 : Int) ≠ 0 by omega)
  rw [if_neg h1]
  exact ⟨by
    cases hs : overB a with
    | true => rfl
    | false => exact absurd hs h1, rfl⟩
theorem ack_sh {s : State} {r : Rec} (hz : (doAck s r).1 = 0) : s.ack < r.tick ∧ doAck s r = (0, ⟨s.epoch, s.next, s.lives, r.tick, s.allocs⟩) := by
  unfold doAck at hz ⊢
  by_cases h0 : r.tick ≤ s.ack
  · rw [if_pos h0] at hz; exact absurd hz (show (7 : Int) ≠ 0 by omega)
  rw [if_neg h0]
  exact ⟨by omega, rfl⟩
theorem turn_sh {s : State} {r : Rec} (hz : (doTurn s r).1 = 0) : ∃ i j : Nat, i < s.allocs.length ∧ findG s.allocs r.id 0 = i ∧ (s.allocs.getD i default).spec.id = r.id ∧ r.task = j ∧ j < (s.allocs.getD i default).tasks.length ∧ (r.kind = 4 → s.next ≠ mT) ∧
    (turnZ s i j r).1 = 0 ∧ doTurn s r = (0, turnS s i j r (turnZ s i j r).2) := by
  unfold doTurn at hz ⊢
  by_cases hi : findG s.allocs r.id 0 < 0
  · rw [if_pos hi] at hz; exact absurd hz (show (6 : Int) ≠ 0 by omega)
  rw [if_neg hi] at hz ⊢
  obtain ⟨i, e1, e2, e3⟩ := find_ok hi
  dsimp only at hz ⊢
  rw [show s.at (findG s.allocs r.id 0) = s.allocs.getD i default by unfold State.at; rw [e1, toNat_nat]] at hz ⊢
  rw [e1, toNat_nat]
  by_cases h1 : r.task < 0 ∨ ((s.allocs.getD i default).tasks.length : Int) ≤ r.task ∨ (r.kind = 4 ∧ s.next = mT)
  · rw [if_pos h1] at hz; exact absurd hz (show (3 : Int) ≠ 0 by omega)
  rw [if_neg h1] at hz ⊢
  have e4 : (s.allocs.getD i default).tk r.task = (s.allocs.getD i default).tasks.getD r.task.toNat default := rfl
  have e5 : (s.allocs.getD i default).pol r.task = ((s.allocs.getD i default).spec.tasks.getD r.task.toNat default).policy := rfl
  rw [e4, e5] at hz ⊢
  rw [show turnT s (s.allocs.getD i default) ((s.allocs.getD i default).tasks.getD r.task.toNat default) ((s.allocs.getD i default).spec.tasks.getD r.task.toNat default).policy r = turnZ s i r.task.toNat r from rfl] at hz ⊢
  by_cases h2 : (turnZ s i r.task.toNat r).1 ≠ 0
  · rw [if_pos h2] at hz; exact absurd hz h2
  rw [if_neg h2]
  exact ⟨i, r.task.toNat, e2, rfl, e3, by omega, by omega, fun hk hn => h1 (.inr (.inr ⟨hk, hn⟩)), Classical.not_not.1 h2, rfl⟩
theorem do_1 {c : Config} {s : State} {r : Rec} (h : r.kind = 1) : doRec c s r = doPlace c s r := by unfold doRec; rw [if_pos h]
theorem do_2 {c : Config} {s : State} {r : Rec} (h : r.kind = 2) : doRec c s r = doStopS s r := by unfold doRec; rw [if_neg (by omega), if_pos h]
theorem do_3 {c : Config} {s : State} {r : Rec} (h : r.kind = 3) : doRec c s r = doForget s r := by unfold doRec; rw [if_neg (by omega), if_neg (by omega), if_pos h]
theorem do_9 {c : Config} {s : State} {r : Rec} (h : r.kind = 9) : doRec c s r = doAck s r := by unfold doRec; rw [if_neg (by omega), if_neg (by omega), if_neg (by omega), if_pos h]
theorem do_t {c : Config} {s : State} {r : Rec} (h : 4 ≤ r.kind ∧ r.kind ≤ 8) : doRec c s r = doTurn s r := by unfold doRec; rw [if_neg (by omega), if_neg (by omega), if_neg (by omega), if_neg (by omega)]
/-- The kinds of what was applied. -/
theorem apply_kinds {c : Config} {s : State} {r : Rec} (hz : (applyF c s r).1 = 0) : (r.kind = 1 ∧ (doPlace c s r).1 = 0 ∧ applyF c s r = doPlace c s r) ∨ (r.kind = 2 ∧ (doStopS s r).1 = 0 ∧ applyF c s r = doStopS s r) ∨ (r.kind = 3 ∧ (doForget s r).1 = 0 ∧ applyF c s r = doForget s r) ∨ ((4 ≤ r.kind ∧ r.kind ≤ 8) ∧ (doTurn s r).1 = 0 ∧ applyF c s r = doTurn s r) ∨ (r.kind = 9 ∧ (doAck s r).1 = 0 ∧ applyF c s r = doAck s r) := by
  obtain ⟨h1, h2, h3⟩ := apply_ok hz
  obtain ⟨hk, _, _⟩ := recE_0 h2
  rw [h3] at hz ⊢
  by_cases k1 : r.kind = 1
  · rw [do_1 k1] at hz ⊢; exact .inl ⟨k1, hz, rfl⟩
  by_cases k2 : r.kind = 2
  · rw [do_2 k2] at hz ⊢; exact .inr (.inl ⟨k2, hz, rfl⟩)
  by_cases k3 : r.kind = 3
  · rw [do_3 k3] at hz ⊢; exact .inr (.inr (.inl ⟨k3, hz, rfl⟩))
  by_cases k9 : r.kind = 9
  · rw [do_9 k9] at hz ⊢; exact .inr (.inr (.inr (.inr ⟨k9, hz, rfl⟩)))
  have kt : 4 ≤ r.kind ∧ r.kind ≤ 8 := by omega
  rw [do_t kt] at hz ⊢; exact .inr (.inr (.inr (.inl ⟨kt, hz, rfl⟩)))
/-- Numbers that never fall. -/
theorem apply_mono {c : Config} {s : State} {r : Rec} (hz : (applyF c s r).1 = 0) :
    s.epoch ≤ (applyF c s r).2.epoch ∧ (applyF c s r).2.next = (if r.kind = 4 then s.next + 1 else s.next) ∧ (applyF c s r).2.lives = (if r.kind = 1 then s.lives + 1 else s.lives) ∧ s.ack ≤ (applyF c s r).2.ack := by
  rcases apply_kinds hz with ⟨k, h, e⟩ | ⟨k, h, e⟩ | ⟨k, h, e⟩ | ⟨k, h, e⟩ | ⟨k, h, e⟩ <;> rw [e]
  · obtain ⟨h1, h2, h3, h4, h5, h6, h7⟩ := place_ok h
    rw [h7]; exact ⟨h1, by rw [if_neg (by omega)], by rw [if_pos k], Int.le_refl _⟩
  · obtain ⟨i, h1, h2, h3, h4, h5, h6, h7⟩ := stop_sh h
    rw [h7]; exact ⟨h4, by rw [if_neg (by omega)], by rw [if_neg (by omega)], Int.le_refl _⟩
  · obtain ⟨i, h1, h2, h3, h4, h5, h7⟩ := forget_sh h
    rw [h7]; exact ⟨h4, by rw [if_neg (by omega)], by rw [if_neg (by omega)], Int.le_refl _⟩
  · obtain ⟨i, j, h1, h2, h3, h4, h5, h6, h7, h8⟩ := turn_sh h
    rw [h8]; exact ⟨Int.le_refl _, rfl, by rw [if_neg (by omega)]; rfl, Int.le_refl _⟩
  · obtain ⟨h1, h2⟩ := ack_sh h
    rw [h2]; exact ⟨Int.le_refl _, by rw [if_neg (by omega)], by rw [if_neg (by omega)], by show s.ack ≤ r.tick; omega⟩
theorem mem_set {α : Type} {l : List α} {i : Nat} {x y : α} (hi : i < l.length) (h : y ∈ l.set i x) : y = x ∨ y ∈ l := by
  rw [setAt hi] at h
  rcases List.mem_append.1 h with h | h
  · exact .inr (List.mem_of_mem_take h)
  rcases List.mem_cons.1 h with h | h
  · exact .inl h
  · exact .inr (List.mem_of_mem_drop h)
theorem find_self {c : Config} {s : State} {i : Nat} (h : StL c s) (hi : i < s.allocs.length) : findG s.allocs (s.allocs.getD i default).spec.id 0 = i := by
  have hn := pw_getD.2 h.near
  rcases findG_spec (s := s) (id := (s.allocs.getD i default).spec.id) 0 (Nat.zero_le _) with ⟨j, h1, h2, h3, h4, h5⟩ | ⟨h1, h2⟩
  · rw [List.drop_zero] at h3
    rw [h3]
    rcases Nat.lt_trichotomy i j with c | c | c
    · exact absurd rfl (h5 i (Nat.zero_le _) c)
    · rw [c]
    · have := (hn i hi j c).2.2; omega
  · exact absurd rfl (h2 i (Nat.zero_le _) hi)
def curP (a : Alloc) (x : Token) : Prop := a.spec.id = x.alloc ∧ 0 ≤ x.task ∧ x.task < a.tasks.length ∧ liveS (a.tasks.getD x.task.toNat default).state ∧ (a.tasks.getD x.task.toNat default).inc = x.inc
theorem cur_iff {c : Config} {s : State} {x : Token} (h : StL c s) : curOk s x ↔ ∃ a ∈ s.allocs, curP a x := by
  unfold curOk State.tk State.at_
  constructor
  · rintro ⟨h0, h1, h2, h3, h4⟩
    obtain ⟨i, e1, e2, e3⟩ := find_ok (s := s) (id := x.alloc) (by omega)
    rw [e1, toNat_nat] at h2 h3 h4
    exact ⟨_, mem_at e2, e3, h1, h2, h3, h4⟩
  · rintro ⟨a, ha, e, h1, h2, h3, h4⟩
    obtain ⟨i, hi, rfl⟩ := List.getElem_of_mem ha
    have e1 := find_self h hi
    have e2 : s.allocs.getD i default = s.allocs[i] := by rw [List.getD_eq_getElem?_getD, List.getElem?_eq_getElem hi]; rfl
    rw [e2, e] at e1
    rw [e1, toNat_nat, e2]
    exact ⟨by omega, h1, h2, h3, h4⟩
theorem turn_live {s : State} {a : Alloc} {t : Task} {p : Policy} {r : Rec} (hk : 4 ≤ r.kind ∧ r.kind ≤ 8) (h4 : r.kind ≠ 4) (hz : (turnT s a t p r).1 = 0) : liveS t.state := by
  unfold turnT at hz
  rw [if_neg h4] at hz
  by_cases k5 : r.kind = 5
  · rw [if_pos k5] at hz
    obtain ⟨h1, h2, h3⟩ := chg_ok hz
    unfold doHandle at h2
    by_cases c : t.state ≠ 1
    · rw [if_pos c] at h2; exact absurd h2 (show (7 : Int) ≠ 0 by omega)
    · unfold liveS; omega
  rw [if_neg k5] at hz
  by_cases k6 : r.kind = 6
  · rw [if_pos k6] at hz
    obtain ⟨h1, h2, h3⟩ := chg_ok hz
    unfold doFail at h2
    by_cases c : t.state ≠ 1
    · rw [if_pos c] at h2; exact absurd h2 (show (7 : Int) ≠ 0 by omega)
    · unfold liveS; omega
  rw [if_neg k6] at hz
  by_cases k7 : r.kind = 7
  · rw [if_pos k7] at hz
    obtain ⟨h1, h2, h3⟩ := chg_ok hz
    unfold doKill at h2
    by_cases c : t.state ≠ 1 ∧ t.state ≠ 2 ∧ t.state ≠ 4
    · rw [if_pos c] at h2; exact absurd h2 (show (7 : Int) ≠ 0 by omega)
    · unfold liveS; omega
  rw [if_neg k7] at hz
  obtain ⟨h1, h2, h3⟩ := chg_ok hz
  unfold doExit at h2
  by_cases c : t.state ≠ 1 ∧ t.state ≠ 2 ∧ t.state ≠ 4 ∧ t.state ≠ 5
  · rw [if_pos c] at h2; exact absurd h2 (show (7 : Int) ≠ 0 by omega)
  · unfold liveS; omega
theorem getD_map {α β : Type} [Inhabited α] [Inhabited β] {f : α → β} {l : List α} {i : Nat} (h : i < l.length) : (l.map f).getD i default = f (l.getD i default) := by
  simp [List.getD_eq_getElem?_getD, h]
theorem getD_set {α : Type} [Inhabited α] {l : List α} {i j : Nat} {x : α} (h : j < l.length) : (l.set i x).getD j default = if i = j then x else l.getD j default := by
  rw [List.getD_eq_getElem?_getD, List.getElem?_set, List.getD_eq_getElem?_getD]
  by_cases e : i = j
  · subst e; simp [h]
  · simp [e]
/-- Tokens do not come back. -/
theorem gone {c : Config} {s : State} {r : Rec} {x : Token} (hw : s.wfS) (hz : (applyF c s r).1 = 0) (hx : x.inc < s.next) (h : ¬ curOk s x) : ¬ curOk (applyF c s r).2 x := by
  obtain ⟨hE, hR, _⟩ := apply_ok hz
  have hg := apply_keeps hw hz
  have h1 := (stE_iff.1 hE).2
  have h2 := (stE_iff.1 hg.1).2
  have hpos := pos_iff.2 hw
  rw [cur_iff h1] at h
  rw [cur_iff h2]
  clear h2 hg
  rintro ⟨a, ha, hc⟩
  refine h ?_
  rcases apply_kinds hz with ⟨k, hz, e⟩ | ⟨k, hz, e⟩ | ⟨k, hz, e⟩ | ⟨k, hz, e⟩ | ⟨k, hz, e⟩ <;> rw [e] at ha
  · obtain ⟨_, _, _, _, _, _, h7⟩ := place_ok hz
    rw [h7] at ha
    rcases List.mem_append.1 ha with ha | ha
    · exact ⟨a, List.mem_of_mem_take ha, hc⟩
    rcases List.mem_cons.1 ha with rfl | ha
    · exfalso
      obtain ⟨c1, c2, c3, c4, c5⟩ := hc
      have : (newA s r.spec).tasks.getD x.task.toNat default = default := by
        show (List.replicate r.spec.tasks.length (default : Task)).getD _ default = default
        rw [List.getD_eq_getElem?_getD, List.getElem?_replicate]
        split <;> rfl
      rw [this] at c4
      have e0 : (default : Task).state = 0 := rfl
      rw [e0] at c4
      unfold liveS at c4
      omega
    · exact ⟨a, List.mem_of_mem_drop ha, hc⟩
  · obtain ⟨i, g1, g2, g3, g4, g5, g6, g7⟩ := stop_sh hz
    rw [g7] at ha
    rcases mem_set g1 ha with rfl | ha
    · have hm := mem_at g1
      generalize s.allocs.getD i default = b at *
      obtain ⟨c1, c2, c3, c4, c5⟩ := hc
      have hl : (stopA b (r.tick + r.wait)).tasks.length = b.tasks.length := by show (b.tasks.map _).length = _; rw [List.length_map]
      have hb : x.task.toNat < b.tasks.length := by omega
      have e1 : (stopA b (r.tick + r.wait)).tasks.getD x.task.toNat default = stop1 (r.tick + r.wait) (b.tasks.getD x.task.toNat default) := getD_map hb
      rw [e1] at c4 c5
      have ht := mem_at hb
      obtain ⟨q1, q2, q3, q4, q5, q6, q7⟩ := h1.each b hm
      have tk := allTk_iff.1 q7 _ ht
      have hn : inR (r.tick + r.wait) 0 (2 * mT) := by
        obtain ⟨_, hg, _⟩ := recE_0 hR
        have h1 := hg.2.2.2.1
        have h2 := hg.2.2.2.2.1
        unfold inR mT at *
        omega
      have hs := stop1_ok (n := r.tick + r.wait) tk.1 (hpos b hm _ ht) (tk.2.2.2 g5) hn
      refine ⟨b, hm, c1, c2, by omega, ?_, by rw [← hs.2.2.2]; exact c5⟩
      have := hs.2.2.1
      generalize b.tasks.getD x.task.toNat default = t at *
      unfold stop1 at c4
      by_cases o : overT t.state ∨ t.state = 5
      · rw [if_pos o] at c4; exact c4
      · rw [if_neg o, stopT_do tk.1 (tk.2.2.2 g5) hn] at c4
        unfold doStop at c4
        have p0 := hpos b hm t ht
        have p7 := (errT_0.1 tk.1).h_st
        unfold overT at o
        unfold liveS at c4 ⊢
        rw [if_neg (tk.2.2.2 g5)] at c4
        by_cases o2 : t.state = 0 ∨ t.state = 3
        · rw [if_pos o2] at c4; simp at c4
        · omega
    · exact ⟨a, ha, hc⟩
  · obtain ⟨i, g1, g2, g3, g4, g5, g7⟩ := forget_sh hz
    rw [g7] at ha
    exact ⟨a, (List.eraseIdx_sublist ..).subset ha, hc⟩
  · obtain ⟨i, j, g1, g2, g3, g4, g5, g6, g7, g8⟩ := turn_sh hz
    rw [g8] at ha
    rcases mem_set g1 (show a ∈ s.allocs.set i _ from ha) with rfl | ha
    · have hm := mem_at g1
      unfold turnZ at *
      generalize s.allocs.getD i default = b at *
      obtain ⟨c1, c2, c3, c4, c5⟩ := hc
      have c3' : x.task.toNat < b.tasks.length := by
        have : ((b.put b.stop (b.tasks.set j (turnT s b (b.tasks.getD j default) (b.spec.tasks.getD j default).policy r).2)).tasks).length = b.tasks.length := List.length_set ..
        omega
      rw [show (b.put b.stop (b.tasks.set j (turnT s b (b.tasks.getD j default) (b.spec.tasks.getD j default).policy r).2)).tasks = b.tasks.set j (turnT s b (b.tasks.getD j default) (b.spec.tasks.getD j default).policy r).2 from rfl, getD_set c3'] at c4 c5
      refine ⟨b, hm, c1, c2, by omega, ?_⟩
      by_cases ej : j = x.task.toNat
      · subst ej
        rw [if_pos rfl] at c4 c5
        have ht := mem_at c3'
        obtain ⟨q1, q2, q3, q4, q5, q6, q7⟩ := h1.each b hm
        have tk := allTk_iff.1 q7 _ ht
        have ok := turn_ok (s := s) (r := r) (p := (b.spec.tasks.getD x.task.toNat default).policy) tk.1 (hpos b hm _ ht) tk.2.2 g7
        have hi := ok.inc
        by_cases k4 : r.kind = 4
        · rw [if_pos k4] at hi; omega
        · rw [if_neg k4] at hi
          exact ⟨turn_live k k4 g7, by rw [← hi]; exact c5⟩
      · rw [if_neg ej] at c4 c5
        exact ⟨c4, c5⟩
    · exact ⟨a, ha, hc⟩
  · obtain ⟨g1, g2⟩ := ack_sh hz
    rw [g2] at ha
    exact ⟨a, ha, hc⟩
end Go.Proofs.YtdblhmpcilihnaaGreat
