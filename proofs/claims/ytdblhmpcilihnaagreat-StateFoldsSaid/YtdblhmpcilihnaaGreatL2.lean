/- The laws of layer 20: numbers that are twice in a list, tales. -/
import Derived.Test.YtdblhmpcilihnaaGreatK5
import Derived.Test.YtdblhmpcilihnaaGreatEP
import Derived.Test.YtdblhmpcilihnaaGreatG0
namespace Go.Proofs.YtdblhmpcilihnaaGreat
open Go.RowKit E
set_option maxRecDepth 100000
set_option linter.unusedVariables false
set_option linter.unusedSimpArgs false
theorem nodup_ix {l : List Int} : (∀ i, i < l.length → ∀ k, k < i → l.getD k 0 ≠ l.getD i 0) ↔ l.Nodup := pw_getD (R := fun a b : Int => a ≠ b)
def twiceB (l : List Int) : Bool := !decide l.Nodup
theorem twice_y {l : List Int} (h : ¬ l.Nodup) : twiceB l = true := by unfold twiceB; rw [decide_eq_false h]; rfl
theorem twice_n {l : List Int} (h : l.Nodup) : twiceB l = false := by unfold twiceB; rw [decide_eq_true h]; rfl
theorem twice_p (l : List Int) (hl : l.length ≤ 1000000) : Pure Tryz.prog 32 [slI l] (B (twiceB l)) := by
  refine Pure.ev Tryz.f32 mx Tryz.func32 (by kernel_rfl) rfl rfl rfl ?_ <;> (refine goS ?_ <;> repeat (intro _ <;> refine goS ?_))
  refine loop_st (S := Nat) (fun i => [(0, slI l), (3, I i)]) (fun _ => ⟨0, []⟩) (fun i => i ≤ l.length ∧ ∀ j, j < i → ∀ k, k < j → l.getD k 0 ≠ l.getD j 0) (fun i => l.length - i) 0
    (Wk.cut rfl ⟨⟨rfl, rfl⟩, ⟨rfl, rfl⟩, trivial⟩ trivial) ⟨Nat.zero_le _, fun j hj => absurd hj (Nat.not_lt_zero j)⟩ ?_
  rintro i ⟨hi, hI⟩
  (refine goS ?_ <;> repeat (intro _ <;> refine goS ?_))
  (refine bnS (fun hr h => ?_) (fun hr h => ?_) <;> first | (exact False.elim h) | ((refine goS ?_ <;> repeat (intro _ <;> refine goS ?_))))
  · have hi2 : i < l.length := h
    have hw1 : Go.IntKind.i64.wrap ((i : Int) + 1) = ((i + 1 : Nat) : Int) := wrapS (show i < 9223372036854775807 by omega)
    refine loop_st (S := Nat) (fun k => [(0, slI l), (3, I i), (4, I k)]) (fun _ => ⟨0, []⟩) (fun k => k ≤ i ∧ ∀ j, j < k → l.getD j 0 ≠ l.getD i 0) (fun k => i - k) 0
      (Wk.cut rfl ⟨⟨rfl, rfl⟩, ⟨rfl, rfl⟩, ⟨rfl, rfl⟩, trivial⟩ trivial) ⟨Nat.zero_le _, fun j hj => absurd hj (Nat.not_lt_zero j)⟩ ?_
    rintro k ⟨hk, hK⟩
    have hw2 : Go.IntKind.i64.wrap ((k : Int) + 1) = ((k + 1 : Nat) : Int) := wrapS (show k < 9223372036854775807 by omega)
    by_cases hk2 : k < i
    · (refine goS ?_ <;> repeat (intro _ <;> refine goS ?_))
      repeat' ((refine bnS (fun hr h => ?_) (fun hr h => ?_) <;> first | (exfalso; omega) | ((refine goS ?_ <;> repeat (intro _ <;> refine goS ?_)))))
      · exact ret_now _ (congrArg B (twice_y fun hn => nodup_ix.2 hn i hi2 k hk2 (by simpa using h.symm)).symm)
      · exact ⟨k + 1, by omega, ⟨by omega, fun j hj => by
          rcases Nat.lt_succ_iff_lt_or_eq.1 hj with h1 | rfl
          · exact hK j h1
          · exact fun e => h (by simpa using e.symm)⟩, Wk.cut rfl ⟨⟨rfl, rfl⟩, ⟨rfl, rfl⟩, ⟨congrArg I hw2, rfl⟩, trivial⟩ trivial⟩
    · (refine goS ?_ <;> repeat (intro _ <;> refine goS ?_))
      repeat' ((refine bnS (fun hr h => ?_) (fun hr h => ?_) <;> first | (exfalso; omega) | ((refine goS ?_ <;> repeat (intro _ <;> refine goS ?_)))))
      exact ⟨i + 1, by omega, ⟨by omega, fun j hj k hkj => by
        rcases Nat.lt_succ_iff_lt_or_eq.1 hj with h1 | rfl
        · exact hI j h1 k hkj
        · exact hK k (by omega)⟩, Wk.cut rfl ⟨⟨rfl, rfl⟩, ⟨congrArg I hw1, rfl⟩, trivial⟩ trivial⟩
  · exact ret_now _ (congrArg B (twice_n (nodup_ix.1 fun i hi => hI i (by omega))).symm)
abbrev slStt (l : List State) : AV := .sl 5 l.length fun i => State.fv (l.getD i default)
open Classical in
/-- The states after k records of a list, and those that were accepted. -/
noncomputable def taleN (c : Config) (l : List Rec) : Nat → List State × List Rec
  | 0 => ([newS], [])
  | k + 1 => if (applyF c ((taleN c l k).1.getD (taleN c l k).2.length default) (nearF (l.getD k default))).1 = 0
      then ((taleN c l k).1 ++ [(applyF c ((taleN c l k).1.getD (taleN c l k).2.length default) (nearF (l.getD k default))).2], (taleN c l k).2 ++ [nearF (l.getD k default)]) else taleN c l k
theorem taleN_ok (c : Config) (l : List Rec) : ∀ k, k ≤ 60 → Tale c (taleN c l k).1 (taleN c l k).2 ∧ (taleN c l k).2.length ≤ k := by
  intro k
  induction k with
  | zero => intro _; exact ⟨tale_one c, Nat.zero_le _⟩
  | succ k ih =>
    intro hk
    obtain ⟨h1, h2⟩ := ih (by omega)
    unfold taleN
    split
    · rename_i hz
      exact ⟨tale_snoc h1 (by omega) (Prod.ext hz rfl), by simp; omega⟩
    · exact ⟨h1, by omega⟩
theorem taleN_yes {c : Config} {l : List Rec} {k : Nat} {z : Int × State} (hz : applyF c ((taleN c l k).1.getD (taleN c l k).2.length default) (nearF (l.getD k default)) = z) (h : z.1 = 0) : taleN c l (k + 1) = ((taleN c l k).1 ++ [z.2], (taleN c l k).2 ++ [nearF (l.getD k default)]) := by
  subst hz
  conv => lhs; unfold taleN
  rw [if_pos h]
theorem taleN_no {c : Config} {l : List Rec} {k : Nat} {z : Int × State} (hz : applyF c ((taleN c l k).1.getD (taleN c l k).2.length default) (nearF (l.getD k default)) = z) (h : ¬ z.1 = 0) : taleN c l (k + 1) = taleN c l k := by
  subst hz
  conv => lhs; unfold taleN
  rw [if_neg h]
theorem near_kind (r : Rec) : 0 ≤ (nearF r).kind := by
  have hb := mb (r.kind - 1) 9 (by omega)
  unfold nearF
  repeat' split
  all_goals (dsimp only; omega)
theorem rowsL_snoc {α : Type} {fv : α → List FV} {L : List α} {x : α} : rowsL fv (L ++ [x]) = rowsL fv L ++ [(fv x).map FV.up] := by unfold rowsL; simp
set_option maxHeartbeats 4000000 in
theorem taleN_p (c : Config) (l : List Rec) (hc : c.ok) (hkd : ∀ i, 0 ≤ (l.getD i default).kind ∧ (l.getD i default).kind ≤ 255) : Pure Tryz.prog 30 [c.av, slRec l] (.tup [slStt (taleN c l (min l.length 60)).1, slRec (taleN c l (min l.length 60)).2, B true]) := by
  refine Pure.ev Tryz.f30 mx Tryz.func30 (by kernel_rfl) rfl rfl rfl ?_ <;> (refine goS ?_ <;> repeat (intro _ <;> refine goS ?_))
  (first | refine Pure.call (new_p) ?_ | refine HCall.pure (new_p) ?_) <;> (refine goS ?_ <;> repeat (intro _ <;> refine goS ?_))
  refine loop_st (S := Nat) (fun k => [(1, slRec l), (2, .hptr 0 11 0 0), (7, .hptr 1 5 0 0), (8, .hsl 2 5 0 (taleN c l k).1.length (taleN c l k).1.length false), (9, .hsl 3 15 0 (taleN c l k).2.length (taleN c l k).2.length false), (10, I k)])
    (fun k => ⟨4, [(3, some ⟨15, rowsL Rec.fv (taleN c l k).2, none⟩), (2, some ⟨5, rowsL State.fv (taleN c l k).1, none⟩), (1, some ⟨5, [(State.fv ((taleN c l k).1.getD (taleN c l k).2.length default)).map FV.up], none⟩), (0, some ⟨11, [c.fv.map FV.up], none⟩)]⟩)
    (fun k => k ≤ l.length ∧ k ≤ 60) (fun k => l.length - k) 0
    ((Wk.exf 8 rfl).trans ((Wk.exf 9 rfl).trans (Wk.cut rfl ⟨⟨rfl, rfl⟩, ⟨rfl, rfl⟩, ⟨rfl, rfl⟩, ⟨rfl, rfl⟩, ⟨rfl, rfl⟩, ⟨rfl, rfl⟩, trivial⟩ ⟨⟨rfl, rfl, bd_rows rowsL_free, nofun⟩, ⟨rfl, rfl, bd_rows rowsL_free, nofun⟩, ⟨rfl, rfl, row1 rfl, nofun⟩, ⟨rfl, rfl, row1 rfl, nofun⟩, trivial⟩))) ⟨Nat.zero_le _, Nat.zero_le _⟩ ?_
  rintro k ⟨hk, hk60⟩
  by_cases hk2 : k < l.length ∧ k < 60
  case neg =>
    have hm : min l.length 60 = k := by omega
    rw [hm]
    (refine goS ?_ <;> repeat (intro _ <;> refine goS ?_))
    repeat' ((refine bnS (fun hr h => ?_) (fun hr h => ?_) <;> first | (exfalso; omega) | ((refine goS ?_ <;> repeat (intro _ <;> refine goS ?_)))))
    all_goals exact ret_frz (x1 := .tup [slStt (taleN c l k).1, slRec (taleN c l k).2, B true]) ⟨frz_rows rfl rfl rfl, frz_rows rfl rfl rfl, rfl, trivial⟩ rfl
  obtain ⟨hk2, hk3⟩ := hk2
  have hw1 : Go.IntKind.i64.wrap ((k : Int) + 1) = ((k + 1 : Nat) : Int) := wrapS (show k < 9223372036854775807 by omega)
  obtain ⟨hT, hl⟩ := taleN_ok c l k (by omega)
  have hlen := hT.len
  have hG := tale_good hc hT _ (Nat.le_refl _)
  have hN := near_p (l.getD k default) (hkd k)
  have hA := apply_p c ((taleN c l k).1.getD (taleN c l k).2.length default) (nearF (l.getD k default)) (good_few hG.1) hG.2 (near_kind _)
  have hz := apply_z c ((taleN c l k).1.getD (taleN c l k).2.length default) (nearF (l.getD k default))
  generalize hzz : applyF c ((taleN c l k).1.getD (taleN c l k).2.length default) (nearF (l.getD k default)) = z at hA hz
  have hyes := taleN_yes hzz
  have hno := taleN_no hzz
  obtain ⟨e, s2⟩ := z
  dsimp only at hz hyes hno
  clear hzz hT hG
  (refine goS ?_ <;> repeat (intro _ <;> refine goS ?_))
  repeat' ((refine bnS (fun hr h => ?_) (fun hr h => ?_) <;> first | (exfalso; omega) | ((refine goS ?_ <;> repeat (intro _ <;> refine goS ?_)))))
  (first | refine Pure.call (hN) ?_ | refine HCall.pure (hN) ?_) <;> (refine goS ?_ <;> repeat (intro _ <;> refine goS ?_))
  (first | refine Pure.call (hA) ?_ | refine HCall.pure (hA) ?_) <;> (refine goS ?_ <;> repeat (intro _ <;> refine goS ?_))
  by_cases he : e = 0
  case neg =>
    have hs := hz he
    subst hs
    have hn := hno he
    (refine bnS (fun hr h => ?_) (fun hr h => ?_) <;> first | (exfalso; omega) | ((refine goS ?_ <;> repeat (intro _ <;> refine goS ?_))))
    refine Pure.call (pure_nz (equalState_p zS) rfl ?_) ?_
    · repeat' (first | exact rfl | exact trivial | (refine And.intro ?_ ?_) | (conv => whnf))
    (refine goS ?_ <;> repeat (intro _ <;> refine goS ?_))
    refine ⟨k + 1, by omega, ⟨by omega, by omega⟩, ?_⟩
    rw [hn]
    exact Wk.cut rfl ⟨⟨rfl, rfl⟩, ⟨rfl, rfl⟩, ⟨rfl, rfl⟩, ⟨rfl, rfl⟩, ⟨rfl, rfl⟩, ⟨congrArg I hw1, rfl⟩, trivial⟩ ⟨⟨rfl, rfl, bd_rows rowsL_free, nofun⟩, ⟨rfl, rfl, bd_rows rowsL_free, nofun⟩, ⟨rfl, rfl, row1 rfl, nofun⟩, ⟨rfl, rfl, row1 rfl, nofun⟩, trivial⟩
  have hn := hyes he
  (refine bnS (fun hr h => ?_) (fun hr h => ?_) <;> first | (exfalso; omega) | ((refine goS ?_ <;> repeat (intro _ <;> refine goS ?_))))
  have hh : 0 + (taleN c l k).1.length = (rowsL State.fv (taleN c l k).1).length ∧ oneRows [(State.fv s2).map FV.up] ∧ ((taleN c l k).1.length + 1) * 56 ≤ 140737488355328 := ⟨by rw [List.length_map]; omega, oneRows_of rfl, by omega⟩
  have hh2 : 0 + (taleN c l k).2.length = (rowsL Rec.fv (taleN c l k).2).length ∧ oneRows [(Rec.fv (nearF (l.getD k default))).map FV.up] ∧ ((taleN c l k).2.length + 1) * 152 ≤ 140737488355328 := ⟨by rw [List.length_map]; omega, oneRows_of rfl, by omega⟩
  refine And.intro hh ?_ <;> (refine goS ?_ <;> repeat (intro _ <;> refine goS ?_))
  (first | refine Pure.call (hN) ?_ | refine HCall.pure (hN) ?_) <;> (refine goS ?_ <;> repeat (intro _ <;> refine goS ?_))
  refine And.intro hh2 ?_ <;> (refine goS ?_ <;> repeat (intro _ <;> refine goS ?_))
  have hl1 : (taleN c l (k + 1)).1 = (taleN c l k).1 ++ [s2] := by rw [hn]
  have hl2 : (taleN c l (k + 1)).2 = (taleN c l k).2 ++ [nearF (l.getD k default)] := by rw [hn]
  have hcur : (taleN c l (k + 1)).1.getD (taleN c l (k + 1)).2.length default = s2 := by
    rw [hl1, hl2, getD_app, List.length_append, if_neg (by rw [hlen]; simp), hlen]
    simp
  exact ⟨k + 1, by omega, ⟨by omega, by omega⟩, Wk.re (fun i => if i = 2 then 6 else if i = 3 then 8 else i) rfl (nofun) (injL rfl) ⟨⟨rfl, rfl⟩, ⟨rfl, rfl⟩, ⟨rfl, rfl⟩, ⟨by rw [hl1, List.length_append]; rfl, rfl⟩, ⟨by rw [hl2, List.length_append]; rfl, rfl⟩, ⟨congrArg I hw1, rfl⟩, trivial⟩
    ⟨⟨rfl, _, rfl, .inl ⟨by rw [hl2]; exact rowsL_snoc.symm, rowsL_free⟩, nofun⟩, ⟨rfl, _, rfl, .inl ⟨by rw [hl1]; exact rowsL_snoc.symm, rowsL_free⟩, nofun⟩, ⟨rfl, _, rfl, .inl ⟨by rw [hcur]; rfl, free1 rfl⟩, nofun⟩, ⟨rfl, _, rfl, .inl ⟨rfl, free1 rfl⟩, nofun⟩, trivial⟩⟩
end Go.Proofs.YtdblhmpcilihnaaGreat
