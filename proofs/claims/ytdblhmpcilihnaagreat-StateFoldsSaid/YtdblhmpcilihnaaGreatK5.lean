/- Tales: the states that records lead to, one after another. -/
import Derived.Test.YtdblhmpcilihnaaGreatKK
import Derived.Test.YtdblhmpcilihnaaGreatLN
namespace Go.Proofs.YtdblhmpcilihnaaGreat
set_option maxRecDepth 100000
set_option linter.unusedVariables false
set_option linter.unusedSimpArgs false
def newS : State := ⟨0, 1, 1, -1, []⟩
theorem good_new {c : Config} (hc : c.ok) : Good c newS := by
  refine ⟨stE_iff.2 ⟨hc, ⟨by decide, by decide, by decide, by decide, ?_, List.Pairwise.nil, List.nodup_nil, ?_, ⟨?_, ?_⟩, List.Pairwise.nil⟩⟩, ?_⟩
  · have := hc.2.1.1; show ((0 : Nat) : Int) ≤ c.allocs; omega
  · intro a ha; cases ha
  · intro r hr; cases hr
  · obtain ⟨h1, h2, h3⟩ := hc.1
    exact ⟨h1.1, h2.1, h3.1⟩
  · exact pos_iff.1 fun a ha => by cases ha
theorem getD_app {α : Type} [Inhabited α] {l m : List α} {i : Nat} : (l ++ m).getD i default = if i < l.length then l.getD i default else m.getD (i - l.length) default := by
  rw [List.getD_eq_getElem?_getD, List.getElem?_append]
  split <;> rw [← List.getD_eq_getElem?_getD]
structure Tale (c : Config) (sts : List State) (rs : List Rec) : Prop where
  len : sts.length = rs.length + 1
  few : rs.length ≤ 60
  first : sts.getD 0 default = newS
  step : ∀ i, i < rs.length → applyF c (sts.getD i default) (rs.getD i default) = (0, sts.getD (i + 1) default)
  near : ∀ i, i < rs.length → ∃ q, rs.getD i default = nearF q
theorem tale_one (c : Config) : Tale c [newS] [] := ⟨rfl, Nat.zero_le _, rfl, fun i hi => absurd hi (Nat.not_lt_zero i), fun i hi => absurd hi (Nat.not_lt_zero i)⟩
theorem tale_snoc {c : Config} {sts : List State} {rs : List Rec} {q : Rec} {t : State} (h : Tale c sts rs) (hl : rs.length < 60) (hs : applyF c (sts.getD rs.length default) (nearF q) = (0, t)) : Tale c (sts ++ [t]) (rs ++ [nearF q]) := by
  obtain ⟨h1, h2, h3, h4, h5⟩ := h
  refine ⟨by simp [h1], by simp; omega, by rw [getD_app, if_pos (by omega)]; exact h3, fun i hi => ?_, fun i hi => ?_⟩
  · have hi2 : i < rs.length + 1 := by simpa using hi
    rw [getD_app, getD_app, getD_app, if_pos (by omega)]
    by_cases c1 : i < rs.length
    · rw [if_pos c1, if_pos (by omega)]; exact h4 i c1
    · have : i = rs.length := by omega
      subst this
      rw [if_neg c1, if_neg (by omega), h1, Nat.sub_self, Nat.sub_self]
      exact hs
  · have hi2 : i < rs.length + 1 := by simpa using hi
    rw [getD_app]
    by_cases c1 : i < rs.length
    · rw [if_pos c1]; exact h5 i c1
    · have : i = rs.length := by omega
      subst this
      rw [if_neg c1, Nat.sub_self]
      exact ⟨q, rfl⟩
theorem tale_good {c : Config} {sts : List State} {rs : List Rec} (hc : c.ok) (h : Tale c sts rs) : ∀ i, i ≤ rs.length → Good c (sts.getD i default) := by
  intro i
  induction i with
  | zero => intro _; rw [h.first]; exact good_new hc
  | succ i ih =>
    intro hi
    have h1 := h.step i (by omega)
    have h2 := apply_keeps (c := c) (s := sts.getD i default) (r := rs.getD i default) (ih (by omega)).2 (by rw [h1])
    rw [h1] at h2
    exact h2
/-- What fits, piece by piece. -/
theorem sums_take {c : Config} {s : State} (h : Good c s) (k : Nat) : fitL c (usedR (s.allocs.take k)) := by
  obtain ⟨hc, hs⟩ := stE_iff.1 h.1
  exact fit_sub (((List.take_sublist k s.allocs).filter _).map _) hs.fit
theorem usedR_snoc {l : List Alloc} {k : Nat} (hk : k < l.length) : usedR (l.take (k + 1)) = usedR (l.take k) ++ (if overB (l.getD k default) = true then [] else [(l.getD k default).spec.res]) := by
  unfold usedR live
  rw [takeS hk, List.filter_append, List.map_append]
  congr 1
  generalize l.getD k default = a
  cases h : overB a <;> simp [h]
theorem usedP_snoc {l : List Alloc} {k : Nat} (hk : k < l.length) : usedP (l.take (k + 1)) = usedP (l.take k) ++ (if overB (l.getD k default) = true then [] else [(l.getD k default).spec.ports]) := by
  unfold usedP live
  rw [takeS hk, List.filter_append, List.map_append]
  congr 1
  generalize l.getD k default = a
  cases h : overB a <;> simp [h]
theorem sumsR_snoc {l : List Res} {r : Res} : sumsR (l ++ [r]) = ⟨(sumsR l).cpu + r.cpu, (sumsR l).mem + r.mem, (sumsR l).disk + r.disk⟩ := by
  unfold sumsR; simp
theorem chk_asc : ∀ {l : List Int} {b : Int}, chk b l = 0 → (∀ x ∈ l, b < x) ∧ l.Pairwise (· < ·) := by
  intro l
  induction l with
  | nil => intro b _; exact ⟨fun x hx => (by cases hx), List.Pairwise.nil⟩
  | cons p l ih =>
    intro b h
    unfold chk at h
    by_cases c1 : p < 1 ∨ 65535 < p
    · rw [if_pos c1] at h; omega
    rw [if_neg c1] at h
    by_cases c2 : p ≤ b
    · rw [if_pos c2] at h; omega
    rw [if_neg c2] at h
    obtain ⟨h1, h2⟩ := ih h
    refine ⟨fun x hx => ?_, List.pairwise_cons.2 ⟨h1, h2⟩⟩
    rcases List.mem_cons.1 hx with rfl | hx
    · omega
    · have := h1 x hx; omega
theorem ports_nodup {l : List Int} (h : checkF l = 0) : l.Nodup := by
  unfold checkF at h
  split at h
  · omega
  · exact (chk_asc h).2.imp fun h => by omega
theorem flat_nodup : ∀ {ls : List (List Int)}, (∀ l ∈ ls, l.Nodup) → ls.Pairwise (fun a b => meetF b a = []) → ls.flatten.Nodup := by
  intro ls
  induction ls with
  | nil => intro _ _; exact List.nodup_nil
  | cons l ls ih =>
    intro h1 h2
    rw [List.pairwise_cons] at h2
    rw [List.flatten_cons, List.nodup_append]
    refine ⟨h1 l (List.mem_cons_self ..), ih (fun m hm => h1 m (List.mem_cons_of_mem _ hm)) h2.2, fun a ha b hb e => ?_⟩
    subst e
    obtain ⟨m, hm, ham⟩ := List.mem_flatten.1 hb
    have := h2.1 m hm
    have hx : a ∈ meetF m l := mem_meetF.2 ⟨ham, ha⟩
    rw [this] at hx
    cases hx
theorem ports_apart {c : Config} {s : State} (h : Good c s) : (usedP s.allocs).flatten.Nodup := by
  obtain ⟨hc, hs⟩ := stE_iff.1 h.1
  refine flat_nodup (fun l hl => ?_) hs.dis
  unfold usedP at hl
  obtain ⟨a, ha, rfl⟩ := List.mem_map.1 hl
  exact ports_nodup (specE_0 (hs.each a (List.mem_filter.1 ha).1).1).1
theorem ports_len {c : Config} {s : State} (h : Good c s) (k : Nat) : (usedP (s.allocs.take k)).flatten.length ≤ 64 := by
  obtain ⟨hc, hs⟩ := stE_iff.1 h.1
  have h8 : ∀ l ∈ usedP (s.allocs.take k), l.length ≤ 8 := fun l hl => by
    unfold usedP at hl
    obtain ⟨a, ha, rfl⟩ := List.mem_map.1 hl
    exact checkF_len (specE_0 (hs.each a (List.mem_of_mem_take (List.mem_filter.1 ha).1)).1).1
  have hn : (usedP (s.allocs.take k)).length ≤ 8 := by
    unfold usedP live
    rw [List.length_map]
    refine Nat.le_trans (List.length_filter_le _ _) ?_
    have := hs.len
    have := hc.2.1.2
    rw [List.length_take]
    omega
  have key : ∀ ls : List (List Int), (∀ l ∈ ls, l.length ≤ 8) → ls.flatten.length ≤ 8 * ls.length := fun ls => by
    induction ls with
    | nil => intro _; exact Nat.zero_le _
    | cons l ls ih =>
      intro h
      have h1 := ih fun m hm => h m (List.mem_cons_of_mem _ hm)
      have h2 := h l (List.mem_cons_self ..)
      rw [List.flatten_cons, List.length_append, List.length_cons]
      omega
  have := key _ h8
  omega
/-- Where an allocation is, when it was placed. -/
theorem placed_at {c : Config} {s t : State} {r : Rec} (hw : s.wfS) (hz : applyF c s r = (0, t)) (hk : r.kind = 1) : ∃ i : Nat, i < t.allocs.length ∧ findG t.allocs r.spec.id 0 = i ∧ (t.allocs.getD i default).life = s.lives := by
  have hz0 : (applyF c s r).1 = 0 := by rw [hz]
  have hg := apply_keeps hw hz0
  rw [hz] at hg
  have ht := (stE_iff.1 hg.1).2
  rcases apply_kinds hz0 with ⟨k, h, e⟩ | ⟨k, h, e⟩ | ⟨k, h, e⟩ | ⟨k, h, e⟩ | ⟨k, h, e⟩
  · obtain ⟨h1, h2, h3, h4, h5, h6, h7⟩ := place_ok h
    rw [hz, h7] at e
    have e2 : t = _ := congrArg Prod.snd e
    have e3 : t.allocs = s.allocs.take (posA s.allocs r.spec.id) ++ newA s r.spec :: s.allocs.drop (posA s.allocs r.spec.id) := by rw [e2]
    have hl : (s.allocs.take (posA s.allocs r.spec.id)).length = posA s.allocs r.spec.id := by rw [List.length_take]; have := posA_le (l := s.allocs) (id := r.spec.id); omega
    have hi : posA s.allocs r.spec.id < t.allocs.length := by rw [e3, List.length_append, List.length_cons]; omega
    have ea : t.allocs.getD (posA s.allocs r.spec.id) default = newA s r.spec := by
      rw [e3, getD_app, if_neg (by omega), hl, Nat.sub_self]; rfl
    have := find_self ht hi
    rw [ea] at this
    exact ⟨_, hi, this, by rw [ea]; rfl⟩
  all_goals omega
/-- What a start is counted by. -/
theorem intent_at {c : Config} {s t : State} {r : Rec} (hw : s.wfS) (hz : applyF c s r = (0, t)) (hk : r.kind = 4) : ∃ i j : Nat, i < t.allocs.length ∧ findG t.allocs r.id 0 = i ∧ r.task = j ∧ j < (t.allocs.getD i default).tasks.length ∧ ((t.allocs.getD i default).tasks.getD j default).inc = s.next := by
  have hz0 : (applyF c s r).1 = 0 := by rw [hz]
  have hg := apply_keeps hw hz0
  rw [hz] at hg
  have ht := (stE_iff.1 hg.1).2
  have hs := (stE_iff.1 (apply_ok hz0).1).2
  rcases apply_kinds hz0 with ⟨k, h, e⟩ | ⟨k, h, e⟩ | ⟨k, h, e⟩ | ⟨k, h, e⟩ | ⟨k, h, e⟩
  case inr.inr.inr.inl =>
    obtain ⟨i, j, h1, h2, h3, h4, h5, h6, h7, h8⟩ := turn_sh h
    rw [hz, h8] at e
    have e2 : t = turnS s i j r (turnZ s i j r).2 := congrArg Prod.snd e
    have ea : t.allocs.getD i default = (s.allocs.getD i default).put (s.allocs.getD i default).stop ((s.allocs.getD i default).tasks.set j (turnZ s i j r).2) := by
      rw [e2]; exact (getD_set h1).trans (if_pos rfl)
    have hi : i < t.allocs.length := by rw [e2]; show i < (s.allocs.set i _).length; rw [List.length_set]; exact h1
    have hf := find_self ht hi
    rw [ea] at hf
    have hm := mem_at h1
    have tk := allTk_iff.1 (hs.each _ hm).2.2.2.2.2.2 _ (mem_at h5)
    have ok := turn_ok (s := s) (r := r) (p := ((s.allocs.getD i default).spec.tasks.getD j default).policy) tk.1 (hw _ _) tk.2.2 h7
    refine ⟨i, j, hi, ?_, h4, ?_, ?_⟩
    · rw [← h3]; exact hf
    · rw [ea]; show j < ((s.allocs.getD i default).tasks.set j _).length; rw [List.length_set]; exact h5
    · rw [ea]
      show (((s.allocs.getD i default).tasks.set j _).getD j default).inc = s.next
      rw [getD_set h5, if_pos rfl]
      have := ok.inc
      rw [if_pos hk] at this
      exact this
  all_goals omega
end Go.Proofs.YtdblhmpcilihnaaGreat
