/- StateFolds, walked. -/
import Derived.Test.YtdblhmpcilihnaaGreatL4
namespace Go.Proofs.YtdblhmpcilihnaaGreat
open Go.RowKit E
set_option maxRecDepth 100000
set_option linter.unusedVariables false
set_option linter.unusedSimpArgs false
theorem fold_tale {c : Config} {sts : List State} {rs : List Rec} (h : Tale c sts rs) (a : Nat) : ∀ m, a + m ≤ rs.length → foldK c (sts.getD a default) (fun i => rs.getD (a + i) default) m = (0, sts.getD (a + m) default) := by
  intro m
  induction m with
  | zero => intro _; rfl
  | succ m ih =>
    intro hm
    exact (foldK_ok (ih (by omega)) (h.step (a + m) (by omega)) rfl)
theorem fold_tale0 {c : Config} {sts : List State} {rs : List Rec} (h : Tale c sts rs) (m : Nat) (hm : m ≤ rs.length) : foldK c ⟨0, 1, 1, -1, []⟩ (fun i => rs.getD i default) m = (0, sts.getD m default) := by
  have := fold_tale h 0 m (by omega)
  rw [h.first] at this
  simp only [Nat.zero_add] at this
  exact this
/-- Which specifications there are. -/
theorem apply_ids {c : Config} {s t : State} {r : Rec} (hz : applyF c s r = (0, t)) : ∀ a ∈ t.allocs, (∃ b ∈ s.allocs, b.spec = a.spec) ∨ (r.kind = 1 ∧ a.spec = r.spec) := by
  have hz0 : (applyF c s r).1 = 0 := by rw [hz]
  have e2 : t = (applyF c s r).2 := by rw [hz]
  intro a ha
  rcases apply_kinds hz0 with ⟨k, h, e⟩ | ⟨k, h, e⟩ | ⟨k, h, e⟩ | ⟨k, h, e⟩ | ⟨k, h, e⟩ <;> rw [e2, e] at ha
  · obtain ⟨_, _, _, _, _, _, h7⟩ := place_ok h
    rw [h7] at ha
    rcases List.mem_append.1 ha with ha | ha
    · exact .inl ⟨a, List.mem_of_mem_take ha, rfl⟩
    rcases List.mem_cons.1 ha with rfl | ha
    · exact .inr ⟨k, rfl⟩
    · exact .inl ⟨a, List.mem_of_mem_drop ha, rfl⟩
  · obtain ⟨i, g1, g2, g3, g4, g5, g6, g7⟩ := stop_sh h
    rw [g7] at ha
    rcases mem_set g1 ha with rfl | ha
    · exact .inl ⟨_, mem_at g1, rfl⟩
    · exact .inl ⟨a, ha, rfl⟩
  · obtain ⟨i, g1, g2, g3, g4, g5, g7⟩ := forget_sh h
    rw [g7] at ha
    exact .inl ⟨a, (List.eraseIdx_sublist ..).subset ha, rfl⟩
  · obtain ⟨i, j, g1, g2, g3, g4, g5, g6, g7, g8⟩ := turn_sh h
    rw [g8] at ha
    rcases mem_set g1 (show a ∈ s.allocs.set i _ from ha) with rfl | ha
    · exact .inl ⟨_, mem_at g1, rfl⟩
    · exact .inl ⟨a, ha, rfl⟩
  · obtain ⟨g1, g2⟩ := ack_sh h
    rw [g2] at ha
    exact .inl ⟨a, ha, rfl⟩
theorem near_id (q : Rec) (h : (nearF q).kind = 1) : (nearF q).spec.id < 4 := by
  have hb := mb (q.kind - 1) 9 (by omega)
  have h4 := mb q.spec.id 4 (by omega)
  unfold nearF at h ⊢
  split at h
  · rename_i e; rw [if_pos e]; exact h4.2
  all_goals first | (exfalso; simp at h; done) | skip
  all_goals (repeat' split at h)
  all_goals (exfalso; dsimp only at h; omega)
theorem tale_ids {c : Config} {sts : List State} {rs : List Rec} (h : Tale c sts rs) : ∀ i, i ≤ rs.length → ∀ a ∈ (sts.getD i default).allocs, a.spec.id < 4 := by
  intro i
  induction i with
  | zero => intro _ a ha; rw [h.first] at ha; cases ha
  | succ i ih =>
    intro hi a ha
    rcases apply_ids (h.step i (by omega)) a ha with ⟨b, hb, e⟩ | ⟨hk, e⟩
    · rw [← e]; exact ih (by omega) b hb
    · obtain ⟨q, hq⟩ := h.near i (by omega)
      rw [e, hq]
      rw [hq] at hk
      exact near_id q hk
def kill9 : Rec := ⟨7, 0, zSp, 9, 0, 0, 0, 0, 0, 0⟩
theorem kill9_err {c : Config} {s : State} (hG : Good c s) (hi : ∀ a ∈ s.allocs, a.spec.id < 4) : applyF c s kill9 = (6, zS) := by
  have hR : recE kill9 = 0 := by rw [recEC_eq]; rfl
  unfold applyF
  rw [if_neg (not_not_intro hG.1), if_neg (not_not_intro hR), do_t ⟨by decide, by decide⟩]
  refine turn_n ?_
  rcases findG_spec (s := s) (id := 9) 0 (Nat.zero_le _) with ⟨i, h1, h2, h3, h4, h5⟩ | ⟨h1, h2⟩
  · have := hi _ (mem_at h2); omega
  · rw [List.drop_zero] at h1; show findG s.allocs 9 0 < 0; omega
abbrev k9Row : List AV := [U8 7, I 0, I 0, I 0, I 0, I 0, nilV0, nilV0, I 9, I 0, I 0, I 0, I 0, I 0, I 0]
def badF (rs : List Rec) (A : Nat) (i : Nat) : Rec := if i < A then rs.getD i default else if i = A then kill9 else rs.getD (i - 1) default
abbrev m1R (rs : List Rec) (A : Nat) : List (List AV) := (List.range A).map fun i => (Rec.fv (rs.getD (0 + i) default)).map FV.up
abbrev m2R (rs : List Rec) (A B : Nat) : List (List AV) := (List.range B).map fun i => (Rec.fv (rs.getD (A + i) default)).map FV.up
theorem bad_rows {rs : List Rec} {A A2 B : Nat} (hA : A2 = A) (i : Nat) (hi : i < 0 + (m1R rs A).length + 1 + (m2R rs A2 B).length) : ∃ row, ((([] ++ m1R rs A) ++ [k9Row]) ++ m2R rs A2 B)[0 + i]? = some row ∧ ((row = (Rec.fv (badF rs A i)).map FV.up) ∨ (i = A ∧ row = k9Row)) := by
  subst hA
  have l1 : (m1R rs A2).length = A2 := by rw [List.length_map, List.length_range]
  have l2 : (m2R rs A2 B).length = B := by rw [List.length_map, List.length_range]
  rw [l1, l2] at hi
  rw [Nat.zero_add, List.nil_append]
  rcases Nat.lt_trichotomy i A2 with h | h | h
  · refine ⟨(Rec.fv (badF rs A2 i)).map FV.up, ?_, .inl rfl⟩
    rw [List.getElem?_append_left (by rw [List.length_append, l1]; omega), List.getElem?_append_left (by rw [l1]; exact h), List.getElem?_map, List.getElem?_range h]
    unfold badF
    rw [if_pos h]
    simp
  · subst h
    refine ⟨k9Row, ?_, .inr ⟨rfl, rfl⟩⟩
    rw [List.getElem?_append_left (by rw [List.length_append, l1]; simp), List.getElem?_append_right (by rw [l1]; exact Nat.le_refl _), l1, Nat.sub_self]
    rfl
  · refine ⟨(Rec.fv (badF rs A2 i)).map FV.up, ?_, .inl rfl⟩
    have l3 : (m1R rs A2 ++ [k9Row]).length = A2 + 1 := by rw [List.length_append, l1]; rfl
    rw [List.getElem?_append_right (by rw [l3]; omega), l3, List.getElem?_map, List.getElem?_range (by omega)]
    unfold badF
    rw [if_neg (by omega), if_neg (by omega)]
    simp only [Option.map_some]
    rw [show A2 + (i - (A2 + 1)) = i - 1 by omega]
theorem foldK_congr {c : Config} {s : State} {f g : Nat → Rec} : ∀ k, (∀ i, i < k → f i = g i) → foldK c s f k = foldK c s g k := by
  intro k
  induction k with
  | zero => intro _; rfl
  | succ k ih =>
    intro h
    unfold foldK
    rw [ih fun i hi => h i (by omega), h k (by omega)]
theorem fold_bad {c : Config} {sts : List State} {rs : List Rec} {A N : Nat} (h : Tale c sts rs) (hA : A ≤ rs.length) (hN : A < N) (hk : applyF c (sts.getD A default) kill9 = (6, zS)) : foldK c ⟨0, 1, 1, -1, []⟩ (badF rs A) N = (6, zS) := by
  have h1 : foldK c ⟨0, 1, 1, -1, []⟩ (badF rs A) A = (0, sts.getD A default) := by
    rw [foldK_congr (g := fun i => rs.getD i default) A (fun i hi => by unfold badF; rw [if_pos hi])]
    exact fold_tale0 h A hA
  have h2 : foldK c ⟨0, 1, 1, -1, []⟩ (badF rs A) (A + 1) = (6, zS) := foldK_err h1 (by
    show applyF c (sts.getD A default) (badF rs A A) = (6, zS)
    unfold badF
    rw [if_neg (Nat.lt_irrefl _), if_pos rfl]
    exact hk) (by decide)
  have h3 := foldK_stop (c := c) (s := ⟨0, 1, 1, -1, []⟩) (f := badF rs A) (k := A + 1) (by rw [h2]; decide) (N - (A + 1))
  rw [show A + 1 + (N - (A + 1)) = N by omega, h2] at h3
  exact h3
theorem free_k9 {rs : List Rec} {A A2 B : Nat} : ∀ row ∈ (([] ++ m1R rs A) ++ [k9Row]) ++ m2R rs A2 B, freeL row = true := fun row h => by
  rcases List.mem_append.1 h with h | h
  · rcases List.mem_append.1 h with h | h
    · exact free_rows row h
    · rw [List.mem_singleton.1 h]; rfl
  · exact free_rows row h
theorem bad_kind {rs : List Rec} (h : ∀ i, 0 ≤ (rs.getD i default).kind) (A i : Nat) : 0 ≤ (badF rs A i).kind := by
  unfold badF
  split
  · exact h _
  split
  · decide
  · exact h _
set_option maxHeartbeats 8000000 in
theorem folds_p (n : Int) (l : List Rec) (at_ : Int) (hkd : ∀ i, 0 ≤ (l.getD i default).kind ∧ (l.getD i default).kind ≤ 255) : Pure Tryz.prog 10 [I n, slRec l, I at_] (B true) := by
  have hc := cfg_ok n
  have hTp := taleN_p (cfgF n) l hc hkd
  obtain ⟨hT, _⟩ := taleN_ok (cfgF n) l (min l.length 60) (by omega)
  generalize (taleN (cfgF n) l (min l.length 60)).1 = sts at hTp hT
  generalize (taleN (cfgF n) l (min l.length 60)).2 = rs at hTp hT
  have hcf := cfg_p n
  generalize cfgF n = c at *
  have hlen := hT.len
  have hfew := hT.few
  have ew : wr ((rs.length : Int) + 1) = (rs.length : Int) + 1 := wrap_id (by omega) (by omega)
  have ew0 : Go.IntKind.i64.wrap ((rs.length : Int) + 1) = (rs.length : Int) + 1 := ew
  have hM := mod_p at_ (wr ((rs.length : Int) + 1)) (by omega) (by omega)
  have hb := mb at_ (wr ((rs.length : Int) + 1)) (by omega)
  rw [ew] at hb
  generalize hA : at_ % wr ((rs.length : Int) + 1) = a at hM
  rw [ew] at hA
  rw [hA] at hb
  clear hA
  have hkr : ∀ i, 0 ≤ (rs.getD i default).kind := fun i => by
    by_cases h : i < rs.length
    · obtain ⟨q, hq⟩ := hT.near i h
      rw [hq]; exact near_kind q
    · rw [List.getD_eq_getElem?_getD, List.getElem?_eq_none (by omega)]; exact Int.le_refl _
  have hF1 := fold_p c ⟨0, 1, 1, -1, []⟩ (fun i => rs.getD i default) rs.length (good_new hc) hkr
  rw [fold_tale0 hT _ (Nat.le_refl _)] at hF1
  have en2 : (a - 0).toNat = a.toNat := by omega
  have en3 : ((rs.length : Int) - a).toNat = rs.length - a.toNat := by omega
  have hF2 := fold_p c ⟨0, 1, 1, -1, []⟩ (fun i => rs.getD (0 + i) default) (a - 0).toNat (good_new hc) (fun i => hkr _)
  have hf2 := fold_tale hT 0 (a - 0).toNat (by omega)
  rw [hT.first] at hf2
  rw [show newS = ⟨0, 1, 1, -1, []⟩ from rfl] at hf2
  rw [hf2.trans (show ((0 : Int), sts.getD (0 + (a - 0).toNat) default) = (0, sts.getD a.toNat default) by rw [en2, Nat.zero_add])] at hF2
  have hF3 := fold_p c (sts.getD a.toNat default) (fun i => rs.getD (a.toNat + i) default) ((rs.length : Int) - a).toNat (tale_good hc hT _ (by omega)) (fun i => hkr _)
  have hf3 := fold_tale hT a.toNat ((rs.length : Int) - a).toNat (by omega)
  rw [hf3.trans (show ((0 : Int), sts.getD (a.toNat + ((rs.length : Int) - a).toNat) default) = (0, sts.getD rs.length default) by rw [en3, show a.toNat + (rs.length - a.toNat) = rs.length by omega])] at hF3
  clear hf3
  clear hf2
  have hkill := kill9_err (tale_good hc hT a.toNat (by omega)) (tale_ids hT a.toNat (by omega))
  have ha : a = 0 ∨ ∃ m : Nat, a = Int.ofNat (m + 1) := by
    by_cases h : a = 0
    · exact .inl h
    · exact .inr ⟨(a - 1).toNat, by show a = (((a - 1).toNat + 1 : Nat) : Int); omega⟩
  rcases ha with rfl | ⟨m, rfl⟩
  · refine Pure.ev Tryz.f10 mx Tryz.func10 (by kernel_rfl) rfl rfl rfl ?_ <;> (refine goS ?_ <;> repeat (intro _ <;> refine goS ?_))
    (first | refine Pure.call (hcf) ?_ | refine HCall.pure (hcf) ?_) <;> (refine goS ?_ <;> repeat (intro _ <;> refine goS ?_))
    (first | refine Pure.call (hTp) ?_ | refine HCall.pure (hTp) ?_) <;> (refine goS ?_ <;> repeat (intro _ <;> refine goS ?_))
    repeat' ((refine bnS (fun hr h => ?_) (fun hr h => ?_) <;> first | (exfalso; omega) | ((refine goS ?_ <;> repeat (intro _ <;> refine goS ?_)))))
    (first | refine Pure.call (hM) ?_ | refine HCall.pure (hM) ?_) <;> (refine goS ?_ <;> repeat (intro _ <;> refine goS ?_))
    (first | refine Pure.call (new_p) ?_ | refine HCall.pure (new_p) ?_) <;> (refine goS ?_ <;> repeat (intro _ <;> refine goS ?_))
    (first | refine Pure.call (hF1) ?_ | refine HCall.pure (hF1) ?_) <;> (refine goS ?_ <;> repeat (intro _ <;> refine goS ?_))
    (first | refine Pure.call (new_p) ?_ | refine HCall.pure (new_p) ?_) <;> (refine goS ?_ <;> repeat (intro _ <;> refine goS ?_))
    (first | refine Pure.call (hF2) ?_ | refine HCall.pure (hF2) ?_) <;> (refine goS ?_ <;> repeat (intro _ <;> refine goS ?_))
    repeat' ((refine bnS (fun hr h => ?_) (fun hr h => ?_) <;> first | (exfalso; omega) | ((refine goS ?_ <;> repeat (intro _ <;> refine goS ?_)))))
    (first | refine Pure.call (hF3) ?_ | refine HCall.pure (hF3) ?_) <;> (refine goS ?_ <;> repeat (intro _ <;> refine goS ?_))
    repeat' ((refine bnS (fun hr h => ?_) (fun hr h => ?_) <;> first | (exfalso; omega) | ((refine goS ?_ <;> repeat (intro _ <;> refine goS ?_)))))
    (first | refine Pure.call (equalState_p (sts.getD rs.length default)) ?_ | refine HCall.pure (equalState_p (sts.getD rs.length default)) ?_) <;> (refine goS ?_ <;> repeat (intro _ <;> refine goS ?_))
    repeat' ((refine bnS (fun hr h => ?_) (fun hr h => ?_) <;> first | (exfalso; omega) | ((refine goS ?_ <;> repeat (intro _ <;> refine goS ?_)))))
    (first | refine Pure.call (equalState_p (sts.getD (0 : Int).toNat default)) ?_ | refine HCall.pure (equalState_p (sts.getD (0 : Int).toNat default)) ?_) <;> (refine goS ?_ <;> repeat (intro _ <;> refine goS ?_))
    repeat' ((refine bnS (fun hr h => ?_) (fun hr h => ?_) <;> first | (exfalso; omega) | ((refine goS ?_ <;> repeat (intro _ <;> refine goS ?_)))))
    (first | refine Pure.call (equalState_p (sts.getD rs.length default)) ?_ | refine HCall.pure (equalState_p (sts.getD rs.length default)) ?_) <;> (refine goS ?_ <;> repeat (intro _ <;> refine goS ?_))
    refine And.intro (And.intro (by rw [Nat.zero_add, Nat.zero_add]; exact (List.length_append ..).symm) (And.intro (fun row hr y hy => by
        obtain ⟨q, _, rfl⟩ := List.mem_map.1 hr
        exact oneRows_of (X := [(Rec.fv (rs.getD (((0 : Int)).toNat + q) default)).map FV.up]) rfl _ (List.mem_singleton.2 rfl) y hy) (by rw [List.length_map, List.length_range, List.length_map, List.length_range]; show (0 + ((0 : Int) - 0).toNat + 1 + ((rs.length : Int) - (0 : Int)).toNat) * 152 ≤ 140737488355328; omega))) ?_ <;> (refine goS1 ?_ <;> repeat (intro _ <;> refine goS1 ?_))
    refine SeqW.wk (Wk.trans (Wk.cut (fr1 := [(7, .hptr 0 11 0 0), (17, .hsl 7 15 0 (0 + (m1R rs ((0 : Int) - 0).toNat).length + 1 + (m2R rs ((0 : Int)).toNat ((rs.length : Int) - (0 : Int)).toNat).length) (0 + (m1R rs ((0 : Int) - 0).toNat).length + 1 + (m2R rs ((0 : Int)).toNat ((rs.length : Int) - (0 : Int)).toNat).length) false)])
        (H1 := ⟨8, [(7, some ⟨15, (([] ++ m1R rs ((0 : Int) - 0).toNat) ++ [k9Row]) ++ m2R rs ((0 : Int)).toNat ((rs.length : Int) - (0 : Int)).toNat, none⟩), (0, some ⟨11, [c.fv.map FV.up], none⟩)]⟩) rfl ⟨⟨rfl, rfl⟩, ⟨rfl, rfl⟩, trivial⟩ ⟨⟨rfl, rfl, bd_rows free_k9, nofun⟩, ⟨rfl, rfl, row1 rfl, nofun⟩, trivial⟩)
      (Wk.frz (fr1 := [(7, .hptr 0 11 0 0), (17, .sl 15 (0 + (m1R rs ((0 : Int) - 0).toNat).length + 1 + (m2R rs ((0 : Int)).toNat ((rs.length : Int) - (0 : Int)).toNat).length) fun i => Rec.fv (badF rs ((0 : Int) - 0).toNat i))]) (es1 := [(0, some ⟨11, [c.fv.map FV.up], none⟩)]) (fun id => id == 7) ⟨rfl, ⟨⟨⟨rfl, rfl⟩, rfl⟩, _, rfl, rfl, fun i hi => ?_⟩, trivial⟩ ⟨⟨rfl, _, rfl, .inl rfl⟩, trivial⟩)) ?_
    · obtain ⟨row, h1, h2⟩ := bad_rows (rs := rs) (A := ((0 : Int) - 0).toNat) (A2 := ((0 : Int)).toNat) (B := ((rs.length : Int) - (0 : Int)).toNat) en2.symm i hi
      refine ⟨row, h1, ?_⟩
      rcases h2 with h2 | ⟨h2, h3⟩
      · rw [h2]; exact frz_sameL _
      · refine (?_ : FzL _ row (List.map FV.up (Rec.fv (badF rs ((0 : Int) - 0).toNat i))))
        rw [h3, show badF rs ((0 : Int) - 0).toNat i = kill9 by unfold badF; rw [if_neg (by omega), if_pos h2]]
        exact ⟨rfl, rfl, rfl, rfl, rfl, rfl, rfl, rfl, rfl, rfl, rfl, rfl, rfl, rfl, rfl, trivial⟩
    have hF4 := fold_p c ⟨0, 1, 1, -1, []⟩ (badF rs ((0 : Int) - 0).toNat) (0 + (m1R rs ((0 : Int) - 0).toNat).length + 1 + (m2R rs ((0 : Int)).toNat ((rs.length : Int) - (0 : Int)).toNat).length) (good_new hc) (bad_kind hkr _)
    rw [fold_bad hT (by omega) (by rw [List.length_map, List.length_range]; omega) (by rw [en2]; exact hkill)] at hF4
    (refine goS ?_ <;> repeat (intro _ <;> refine goS ?_))
    (first | refine Pure.call (new_p) ?_ | refine HCall.pure (new_p) ?_) <;> (refine goS ?_ <;> repeat (intro _ <;> refine goS ?_))
    (first | refine Pure.call (hF4) ?_ | refine HCall.pure (hF4) ?_) <;> (refine goS ?_ <;> repeat (intro _ <;> refine goS ?_))
    (first | refine Pure.call (pure_nz (equalState_p zS) rfl ?_) ?_ | refine HCall.pure (pure_nz (equalState_p zS) rfl ?_) ?_)
    · repeat' (first | exact rfl | exact trivial | (refine And.intro ?_ ?_) | (conv => whnf))
    (refine goS ?_ <;> repeat (intro _ <;> refine goS ?_))
    (first | refine Pure.call (awake20_p) ?_ | refine HCall.pure (awake20_p) ?_) <;> (refine goS ?_ <;> repeat (intro _ <;> refine goS ?_))
    exact ret_now _ rfl
  · refine Pure.ev Tryz.f10 mx Tryz.func10 (by kernel_rfl) rfl rfl rfl ?_ <;> (refine goS ?_ <;> repeat (intro _ <;> refine goS ?_))
    (first | refine Pure.call (hcf) ?_ | refine HCall.pure (hcf) ?_) <;> (refine goS ?_ <;> repeat (intro _ <;> refine goS ?_))
    (first | refine Pure.call (hTp) ?_ | refine HCall.pure (hTp) ?_) <;> (refine goS ?_ <;> repeat (intro _ <;> refine goS ?_))
    repeat' ((refine bnS (fun hr h => ?_) (fun hr h => ?_) <;> first | (exfalso; omega) | ((refine goS ?_ <;> repeat (intro _ <;> refine goS ?_)))))
    (first | refine Pure.call (hM) ?_ | refine HCall.pure (hM) ?_) <;> (refine goS ?_ <;> repeat (intro _ <;> refine goS ?_))
    (first | refine Pure.call (new_p) ?_ | refine HCall.pure (new_p) ?_) <;> (refine goS ?_ <;> repeat (intro _ <;> refine goS ?_))
    (first | refine Pure.call (hF1) ?_ | refine HCall.pure (hF1) ?_) <;> (refine goS ?_ <;> repeat (intro _ <;> refine goS ?_))
    (first | refine Pure.call (new_p) ?_ | refine HCall.pure (new_p) ?_) <;> (refine goS ?_ <;> repeat (intro _ <;> refine goS ?_))
    (first | refine Pure.call (hF2) ?_ | refine HCall.pure (hF2) ?_) <;> (refine goS ?_ <;> repeat (intro _ <;> refine goS ?_))
    repeat' ((refine bnS (fun hr h => ?_) (fun hr h => ?_) <;> first | (exfalso; omega) | ((refine goS ?_ <;> repeat (intro _ <;> refine goS ?_)))))
    (first | refine Pure.call (hF3) ?_ | refine HCall.pure (hF3) ?_) <;> (refine goS ?_ <;> repeat (intro _ <;> refine goS ?_))
    repeat' ((refine bnS (fun hr h => ?_) (fun hr h => ?_) <;> first | (exfalso; omega) | ((refine goS ?_ <;> repeat (intro _ <;> refine goS ?_)))))
    (first | refine Pure.call (equalState_p (sts.getD rs.length default)) ?_ | refine HCall.pure (equalState_p (sts.getD rs.length default)) ?_) <;> (refine goS ?_ <;> repeat (intro _ <;> refine goS ?_))
    repeat' ((refine bnS (fun hr h => ?_) (fun hr h => ?_) <;> first | (exfalso; omega) | ((refine goS ?_ <;> repeat (intro _ <;> refine goS ?_)))))
    (first | refine Pure.call (equalState_p (sts.getD (Int.ofNat (m + 1)).toNat default)) ?_ | refine HCall.pure (equalState_p (sts.getD (Int.ofNat (m + 1)).toNat default)) ?_) <;> (refine goS ?_ <;> repeat (intro _ <;> refine goS ?_))
    repeat' ((refine bnS (fun hr h => ?_) (fun hr h => ?_) <;> first | (exfalso; omega) | ((refine goS ?_ <;> repeat (intro _ <;> refine goS ?_)))))
    (first | refine Pure.call (equalState_p (sts.getD rs.length default)) ?_ | refine HCall.pure (equalState_p (sts.getD rs.length default)) ?_) <;> (refine goS ?_ <;> repeat (intro _ <;> refine goS ?_))
    (refine bnS (fun hr h => ?_) (fun hr h => ?_) <;> first | (exact False.elim h) | ((refine goS ?_ <;> repeat (intro _ <;> refine goS ?_))))
    refine And.intro ⟨Nat.zero_le _, by rw [List.length_map, List.length_range]; show (0 + (Int.ofNat (m + 1) - 0).toNat) * 152 ≤ 140737488355328; omega⟩ ?_ <;> (refine goS ?_ <;> repeat (intro _ <;> refine goS ?_))
    refine And.intro (And.intro (by rw [Nat.zero_add, Nat.zero_add]; rfl) (And.intro (oneRows_of rfl) (by rw [List.length_map, List.length_range]; show (0 + (Int.ofNat (m + 1) - 0).toNat + 1) * 152 ≤ 140737488355328; omega))) ?_ <;> (refine goS ?_ <;> repeat (intro _ <;> refine goS ?_))
    refine And.intro (And.intro (by rw [Nat.zero_add, Nat.zero_add]; exact (List.length_append ..).symm) (And.intro (fun row hr y hy => by
        obtain ⟨q, _, rfl⟩ := List.mem_map.1 hr
        exact oneRows_of (X := [(Rec.fv (rs.getD ((Int.ofNat (m + 1)).toNat + q) default)).map FV.up]) rfl _ (List.mem_singleton.2 rfl) y hy) (by rw [List.length_map, List.length_range, List.length_map, List.length_range]; show (0 + (Int.ofNat (m + 1) - 0).toNat + 1 + ((rs.length : Int) - Int.ofNat (m + 1)).toNat) * 152 ≤ 140737488355328; omega))) ?_ <;> (refine goS1 ?_ <;> repeat (intro _ <;> refine goS1 ?_))
    refine SeqW.wk (Wk.trans (Wk.cut (fr1 := [(7, .hptr 0 11 0 0), (17, .hsl 8 15 0 (0 + (m1R rs (Int.ofNat (m + 1) - 0).toNat).length + 1 + (m2R rs (Int.ofNat (m + 1)).toNat ((rs.length : Int) - Int.ofNat (m + 1)).toNat).length) (0 + (m1R rs (Int.ofNat (m + 1) - 0).toNat).length + 1 + (m2R rs (Int.ofNat (m + 1)).toNat ((rs.length : Int) - Int.ofNat (m + 1)).toNat).length) false)])
        (H1 := ⟨9, [(8, some ⟨15, (([] ++ m1R rs (Int.ofNat (m + 1) - 0).toNat) ++ [k9Row]) ++ m2R rs (Int.ofNat (m + 1)).toNat ((rs.length : Int) - Int.ofNat (m + 1)).toNat, none⟩), (0, some ⟨11, [c.fv.map FV.up], none⟩)]⟩) rfl ⟨⟨rfl, rfl⟩, ⟨rfl, rfl⟩, trivial⟩ ⟨⟨rfl, rfl, bd_rows free_k9, nofun⟩, ⟨rfl, rfl, row1 rfl, nofun⟩, trivial⟩)
      (Wk.frz (fr1 := [(7, .hptr 0 11 0 0), (17, .sl 15 (0 + (m1R rs (Int.ofNat (m + 1) - 0).toNat).length + 1 + (m2R rs (Int.ofNat (m + 1)).toNat ((rs.length : Int) - Int.ofNat (m + 1)).toNat).length) fun i => Rec.fv (badF rs (Int.ofNat (m + 1) - 0).toNat i))]) (es1 := [(0, some ⟨11, [c.fv.map FV.up], none⟩)]) (fun id => id == 8) ⟨rfl, ⟨⟨⟨rfl, rfl⟩, rfl⟩, _, rfl, rfl, fun i hi => ?_⟩, trivial⟩ ⟨⟨rfl, _, rfl, .inl rfl⟩, trivial⟩)) ?_
    · obtain ⟨row, h1, h2⟩ := bad_rows (rs := rs) (A := (Int.ofNat (m + 1) - 0).toNat) (A2 := (Int.ofNat (m + 1)).toNat) (B := ((rs.length : Int) - Int.ofNat (m + 1)).toNat) en2.symm i hi
      refine ⟨row, h1, ?_⟩
      rcases h2 with h2 | ⟨h2, h3⟩
      · rw [h2]; exact frz_sameL _
      · refine (?_ : FzL _ row (List.map FV.up (Rec.fv (badF rs (Int.ofNat (m + 1) - 0).toNat i))))
        rw [h3, show badF rs (Int.ofNat (m + 1) - 0).toNat i = kill9 by unfold badF; rw [if_neg (by omega), if_pos h2]]
        exact ⟨rfl, rfl, rfl, rfl, rfl, rfl, rfl, rfl, rfl, rfl, rfl, rfl, rfl, rfl, rfl, trivial⟩
    have hF4 := fold_p c ⟨0, 1, 1, -1, []⟩ (badF rs (Int.ofNat (m + 1) - 0).toNat) (0 + (m1R rs (Int.ofNat (m + 1) - 0).toNat).length + 1 + (m2R rs (Int.ofNat (m + 1)).toNat ((rs.length : Int) - Int.ofNat (m + 1)).toNat).length) (good_new hc) (bad_kind hkr _)
    rw [fold_bad hT (by omega) (by rw [List.length_map, List.length_range]; omega) (by rw [en2]; exact hkill)] at hF4
    (refine goS ?_ <;> repeat (intro _ <;> refine goS ?_))
    (first | refine Pure.call (new_p) ?_ | refine HCall.pure (new_p) ?_) <;> (refine goS ?_ <;> repeat (intro _ <;> refine goS ?_))
    (first | refine Pure.call (hF4) ?_ | refine HCall.pure (hF4) ?_) <;> (refine goS ?_ <;> repeat (intro _ <;> refine goS ?_))
    (first | refine Pure.call (pure_nz (equalState_p zS) rfl ?_) ?_ | refine HCall.pure (pure_nz (equalState_p zS) rfl ?_) ?_)
    · repeat' (first | exact rfl | exact trivial | (refine And.intro ?_ ?_) | (conv => whnf))
    (refine goS ?_ <;> repeat (intro _ <;> refine goS ?_))
    (first | refine Pure.call (awake20_p) ?_ | refine HCall.pure (awake20_p) ?_) <;> (refine goS ?_ <;> repeat (intro _ <;> refine goS ?_))
    exact ret_now _ rfl
end Go.Proofs.YtdblhmpcilihnaaGreat
