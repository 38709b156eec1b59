/- PlanSettles, walked. -/
import Derived.Test.YtdblhmpcilihnaaGreatP1
import Derived.Test.YtdblhmpcilihnaaGreatG0
namespace Go.Proofs.YtdblhmpcilihnaaGreat
open Go.RowKit E
set_option maxRecDepth 100000
set_option linter.unusedVariables false
set_option linter.unusedSimpArgs false
/-- A process that counts as ended. -/
def overP (p : Proc) : Proc := ⟨p.pid, p.nonce, p.token, false, p.term, p.kill, max 0 (min 255 p.code)⟩
def lookX (K : Look) : Look := ⟨K.now, true, false, K.sick, K.has, K.proc, K.other⟩
theorem getD_app {α : Type} [Inhabited α] {l m : List α} {i : Nat} : (l ++ m).getD i default = if i < l.length then l.getD i default else m.getD (i - l.length) default := by
  rw [List.getD_eq_getElem?_getD, List.getElem?_append]
  split <;> rw [← List.getD_eq_getElem?_getD]
abbrev rowP (p : Proc) (al : Bool) (code : Int) : List AV := [I p.pid, I p.nonce, I p.token.alloc, I p.token.task, I p.token.inc, B al, B p.term, B p.kill, I code]
/-- The first ones count as ended. -/
def overL (l : List Proc) (k : Nat) : List Proc := (l.take k).map overP ++ l.drop k
theorem overL_0 (l : List Proc) : overL l 0 = l := rfl
theorem overL_all (l : List Proc) : overL l l.length = l.map overP := by unfold overL; simp
theorem overL_len (l : List Proc) (k : Nat) : (overL l k).length = l.length := by unfold overL; simp; omega
theorem overL_get {l : List Proc} {k : Nat} (h : k < l.length) : (overL l k).getD k default = l.getD k default := by
  unfold overL
  rw [getD_app, if_neg (by rw [List.length_map, List.length_take]; omega)]
  have : (List.map overP (List.take k l)).length = k := by simp; omega
  rw [this, Nat.sub_self, List.getD_eq_getElem?_getD, List.getElem?_drop, Nat.add_zero, ← List.getD_eq_getElem?_getD]
theorem overL_at {l : List Proc} {k : Nat} (h : k < l.length) : (rowsL Proc.fv (overL l k))[0 + ((k : Int)).toNat]? = some ((Proc.fv (l.getD k default)).map FV.up) := by
  have := rowsL_at' (fv := Proc.fv) (L := overL l k) (i := k) (by rw [overL_len]; exact h)
  rw [overL_get h] at this
  exact this
theorem overL_succ {l : List Proc} {k : Nat} (h : k < l.length) : overL l (k + 1) = (overL l k).set k (overP (l.getD k default)) := by
  have h1 : (List.map overP (List.take k l)).length = k := by simp; omega
  unfold overL
  rw [takeS h, List.map_append, List.set_append_right _ _ (by omega), h1, Nat.sub_self, dropAtD h]
  simp
/-- A task that rests. -/
def restT (t : Task) : Prop := t.state = 0 ∨ t.state = 3 ∨ overT t.state
set_option maxHeartbeats 4000000 in
theorem settles_p (c : Config) (s : State) (a k : Int) (now : Int) (l : List Proc) (hw : s.wfS) : Pure Tryz.prog 12 [c.av, s.av, .agg [I a, I k], I now, slPr l] (B true) := by
  have hAw := awake31_p
  have hF := few_p s
  cases hf : fewB s <;> rw [hf] at hF
  · refine Pure.ev Tryz.f12 mx Tryz.func12 (by kernel_rfl) rfl rfl rfl ?_ <;> (refine goS ?_ <;> repeat (intro _ <;> refine goS ?_))
    (first | refine Pure.call (hF) ?_ | refine HCall.pure (hF) ?_) <;> (refine goS ?_ <;> repeat (intro _ <;> refine goS ?_))
    exact ret_now _ rfl
  have hfw := fewB_few hf
  have hC := refCheck_p c s hfw hw
  by_cases hE : stE c s = 0
  case neg =>
    refine Pure.ev Tryz.f12 mx Tryz.func12 (by kernel_rfl) rfl rfl rfl ?_ <;> (refine goS ?_ <;> repeat (intro _ <;> refine goS ?_))
    (first | refine Pure.call (hF) ?_ | refine HCall.pure (hF) ?_) <;> (refine goS ?_ <;> repeat (intro _ <;> refine goS ?_))
    (first | refine Pure.call (hC) ?_ | refine HCall.pure (hC) ?_) <;> (refine goS ?_ <;> repeat (intro _ <;> refine goS ?_))
    repeat' ((refine bnS (fun hr h => ?_) (fun hr h => ?_) <;> first | (exfalso; omega) | ((refine goS ?_ <;> repeat (intro _ <;> refine goS ?_)))))
    all_goals exact ret_now _ rfl
  rw [hE] at hC
  by_cases hnl : (0 ≤ now ∧ now ≤ 549755813888) ∧ l.length ≤ 20 ∧ s.next < 1099511627776
  case neg =>
    refine Pure.ev Tryz.f12 mx Tryz.func12 (by kernel_rfl) rfl rfl rfl ?_ <;> (refine goS ?_ <;> repeat (intro _ <;> refine goS ?_))
    (first | refine Pure.call (hF) ?_ | refine HCall.pure (hF) ?_) <;> (refine goS ?_ <;> repeat (intro _ <;> refine goS ?_))
    (first | refine Pure.call (hC) ?_ | refine HCall.pure (hC) ?_) <;> (refine goS ?_ <;> repeat (intro _ <;> refine goS ?_))
    repeat' ((refine bnS (fun hr h => ?_) (fun hr h => ?_) <;> first | (exfalso; omega) | ((refine goS ?_ <;> repeat (intro _ <;> refine goS ?_)))))
    all_goals exact ret_now _ rfl
  obtain ⟨hnow, hl, hnx⟩ := hnl
  have hT : ∀ b, thereB s a k = b → decide ((0 ≤ a ∧ a < s.allocs.length) ∧ 0 ≤ k ∧ k < (s.allocs.getD a.toNat default).tasks.length) = b := fun b h => h
  cases hth : thereB s a k
  case false =>
    have hT' := of_decide_eq_false (hT _ hth)
    refine Pure.ev Tryz.f12 mx Tryz.func12 (by kernel_rfl) rfl rfl rfl ?_ <;> (refine goS ?_ <;> repeat (intro _ <;> refine goS ?_))
    (first | refine Pure.call (hF) ?_ | refine HCall.pure (hF) ?_) <;> (refine goS ?_ <;> repeat (intro _ <;> refine goS ?_))
    (first | refine Pure.call (hC) ?_ | refine HCall.pure (hC) ?_) <;> (refine goS ?_ <;> repeat (intro _ <;> refine goS ?_))
    repeat' ((refine bnS (fun hr h => ?_) (fun hr h => ?_) <;> first | (exfalso; omega) | ((refine goS ?_ <;> repeat (intro _ <;> refine goS ?_)))))
    all_goals exact ret_now _ rfl
  have hT' := of_decide_eq_true (hT _ hth)
  clear hT
  obtain ⟨⟨ha1, ha2⟩, hk1, hk2⟩ := hT'
  have hnow2 : inR now 0 1099511627776 := ⟨by omega, by omega⟩
  have hstl : ((s.allocs.getD a.toNat default).tasks.getD k.toNat default).starts.length ≤ 20 := (hfw.2 a.toNat).2.2.2 k.toNat
  refine Pure.ev Tryz.f12 mx Tryz.func12 (by kernel_rfl) rfl rfl rfl ?_ <;> (refine goS ?_ <;> repeat (intro _ <;> refine goS ?_))
  (first | refine Pure.call (hF) ?_ | refine HCall.pure (hF) ?_) <;> (refine goS ?_ <;> repeat (intro _ <;> refine goS ?_))
  (first | refine Pure.call (hC) ?_ | refine HCall.pure (hC) ?_) <;> (refine goS ?_ <;> repeat (intro _ <;> refine goS ?_))
  repeat' ((refine bnS (fun hr h => ?_) (fun hr h => ?_) <;> first | (exfalso; omega) | ((refine goS ?_ <;> repeat (intro _ <;> refine goS ?_)))))
  refine ⟨by rw [List.length_map, List.length_range]; show l.length * 56 ≤ 140737488355328; omega, ?_⟩
  (refine goS ?_ <;> repeat (intro _ <;> refine goS ?_))
  refine loop_st (S := Nat) (fun z => [(3, I now), (5, .hptr 0 11 0 0), (6, .hptr 1 5 0 0), (7, .hptr 2 2 0 0), (11, .hsl 3 9 0 l.length l.length false), (12, I z)])
    (fun z => ⟨4, [(3, some ⟨9, rowsL Proc.fv (overL l z), none⟩), (2, some ⟨2, [[I a, I k]], none⟩), (1, some ⟨5, [s.fv.map FV.up], none⟩), (0, some ⟨11, [c.fv.map FV.up], none⟩)]⟩)
    (fun z => z ≤ l.length) (fun z => l.length - z) 0
    ((Wk.exf 11 rfl).trans (Wk.cut rfl ⟨⟨rfl, rfl⟩, ⟨rfl, rfl⟩, ⟨rfl, rfl⟩, ⟨rfl, rfl⟩, ⟨by simp; rfl, rfl⟩, ⟨rfl, rfl⟩, trivial⟩ ⟨⟨by rw [overL_0]; exact congrArg (fun r => some (E.Blk.mk 9 r none)) rng_rowsL, rfl, bd_rows rowsL_free, nofun⟩, ⟨rfl, rfl, row1 rfl, nofun⟩, ⟨rfl, rfl, row1 rfl, nofun⟩, ⟨rfl, rfl, row1 rfl, nofun⟩, trivial⟩)) (Nat.zero_le _) ?_
  intro z hz
  have hw1 : Go.IntKind.i64.wrap ((z : Int) + 1) = ((z + 1 : Nat) : Int) := wrapS (show z < 9223372036854775807 by omega)
  by_cases hz2 : z < l.length
  · have hat : (rowsL Proc.fv (overL l z))[0 + ((z : Int)).toNat]? = some ((Proc.fv (l.getD z default)).map FV.up) := overL_at hz2
    (refine goS ?_ <;> repeat (intro _ <;> refine goS ?_))
    repeat' ((refine bnS (fun hr h => ?_) (fun hr h => ?_) <;> first | (exfalso; omega) | ((refine goS ?_ <;> repeat (intro _ <;> refine goS ?_)))))
    (rw [evN_load_own (row := (Proc.fv (l.getD z default)).map FV.up) (y := I (l.getD z default).code)]; rotate_left 1; exact rfl; exact rfl; exact rfl; exact hat; exact rfl; exact rfl) <;> (refine goS ?_ <;> repeat (intro _ <;> refine goS ?_))
    have hix : 0 + ((z : Int)).toNat = z := by omega
    have hlr : 0 + ((z : Int)).toNat < (rowsL Proc.fv (overL l z)).length := by rw [List.length_map, overL_len]; omega
    have hat2 := set_at (l := rowsL Proc.fv (overL l z)) (x := rowP (l.getD z default) false (l.getD z default).code) hlr
    have hset : ((rowsL Proc.fv (overL l z)).set (0 + ((z : Int)).toNat) (rowP (l.getD z default) false (l.getD z default).code)).set (0 + ((z : Int)).toNat) (rowP (l.getD z default) false (max 0 (min 255 (l.getD z default).code))) = rowsL Proc.fv (overL l (z + 1)) := by
      rw [List.set_set, overL_succ hz2, hix]
      show (List.map (fun x : Proc => (Proc.fv x).map FV.up) (overL l z)).set z ((fun x : Proc => (Proc.fv x).map FV.up) (overP (l.getD z default))) = List.map (fun x : Proc => (Proc.fv x).map FV.up) ((overL l z).set z (overP (l.getD z default)))
      rw [List.map_set]
    (rw [evStore_eq (row := (Proc.fv (l.getD z default)).map FV.up) (rows' := (rowsL Proc.fv (overL l z)).set (0 + ((z : Int)).toNat) (rowP (l.getD z default) false (l.getD z default).code))]; rotate_left 1; exact rfl; exact rfl; exact rfl; exact hat; exact rfl; exact rfl; exact rfl) <;> (refine goS ?_ <;> repeat (intro _ <;> refine goS ?_))
    (rw [evStore_eq (row := rowP (l.getD z default) false (l.getD z default).code) (rows' := rowsL Proc.fv (overL l (z + 1)))]; rotate_left 1; exact rfl; exact rfl; exact rfl; exact hat2; exact rfl; exact rfl; exact hset) <;> (refine goS ?_ <;> repeat (intro _ <;> refine goS ?_))
    exact ⟨z + 1, by omega, by omega, Wk.cut rfl ⟨⟨rfl, rfl⟩, ⟨rfl, rfl⟩, ⟨rfl, rfl⟩, ⟨rfl, rfl⟩, ⟨rfl, rfl⟩, ⟨congrArg I hw1, rfl⟩, trivial⟩ ⟨⟨rfl, rfl, bd_rows rowsL_free, nofun⟩, ⟨rfl, rfl, row1 rfl, nofun⟩, ⟨rfl, rfl, row1 rfl, nofun⟩, ⟨rfl, rfl, row1 rfl, nofun⟩, trivial⟩⟩
  have hzl : z = l.length := by omega
  subst hzl
  rw [overL_all]
  have hal : ∀ p ∈ l.map overP, p.alive = false := fun p hp => by
    obtain ⟨q, _, rfl⟩ := List.mem_map.1 hp
    rfl
  have hlo : (l.map overP).length = l.length := List.length_map ..
  generalize l.map overP = lo at hal hlo ⊢
  (refine goS ?_ <;> repeat (intro _ <;> refine goS ?_))
  repeat' ((refine bnS (fun hr h => ?_) (fun hr h => ?_) <;> first | (exfalso; omega) | ((refine goS ?_ <;> repeat (intro _ <;> refine goS ?_)))))
  clear hw1 hz hC
  generalize htt : (s.allocs.getD a.toNat default).tasks.getD k.toNat default = t at *
  refine loop_st (S := Nat) (fun z => [(3, I now), (5, .hptr 0 11 0 0), (6, .hptr 1 5 0 0), (7, .hptr 2 2 0 0), (11, slPr lo), (13, slI t.starts), (14, I z)])
    (fun z => ⟨3, [(2, some ⟨2, [[I a, I k]], none⟩), (1, some ⟨5, [s.fv.map FV.up], none⟩), (0, some ⟨11, [c.fv.map FV.up], none⟩)]⟩)
    (fun z => z ≤ t.starts.length ∧ ∀ j, j < z → t.starts.getD j 0 ≤ now) (fun z => t.starts.length - z) 0
    ((Wk.freeze (t := 11) (id := 3) (x1 := slPr lo) rfl (by unfold FzR; exact ⟨⟨⟨rfl, rfl⟩, rfl, hlo⟩, fun i hi => by rw [Nat.zero_add]; exact rowsL_at (by omega)⟩)).trans (Wk.cut rfl ⟨⟨rfl, rfl⟩, ⟨rfl, rfl⟩, ⟨rfl, rfl⟩, ⟨rfl, rfl⟩, ⟨rfl, rfl⟩, ⟨by subst htt; rfl, rfl⟩, ⟨rfl, rfl⟩, trivial⟩ ⟨⟨rfl, rfl, row1 rfl, nofun⟩, ⟨rfl, rfl, row1 rfl, nofun⟩, ⟨rfl, rfl, row1 rfl, nofun⟩, trivial⟩)) ⟨Nat.zero_le _, fun j hj => absurd hj (Nat.not_lt_zero j)⟩ ?_
  rintro z ⟨hz, hzs⟩
  have hw1 : Go.IntKind.i64.wrap ((z : Int) + 1) = ((z + 1 : Nat) : Int) := wrapS (show z < 9223372036854775807 by omega)
  (refine goS ?_ <;> repeat (intro _ <;> refine goS ?_))
  (refine bnS (fun hr h => ?_) (fun hr h => ?_) <;> first | (exact False.elim h) | ((refine goS ?_ <;> repeat (intro _ <;> refine goS ?_))))
  · have hz2 : z < t.starts.length := h
    (refine bnS (fun hr h => ?_) (fun hr h => ?_) <;> first | (exact False.elim h) | ((refine goS ?_ <;> repeat (intro _ <;> refine goS ?_))))
    · exact ret_now _ rfl
    · exact ⟨z + 1, by omega, ⟨by omega, fun j hj => by
        rcases Nat.lt_succ_iff_lt_or_eq.1 hj with h1 | rfl
        · exact hzs j h1
        · simpa using h⟩, Wk.cut rfl ⟨⟨rfl, rfl⟩, ⟨rfl, rfl⟩, ⟨rfl, rfl⟩, ⟨rfl, rfl⟩, ⟨rfl, rfl⟩, ⟨rfl, rfl⟩, ⟨congrArg I hw1, rfl⟩, trivial⟩ ⟨⟨rfl, rfl, row1 rfl, nofun⟩, ⟨rfl, rfl, row1 rfl, nofun⟩, ⟨rfl, rfl, row1 rfl, nofun⟩, trivial⟩⟩
  have hst : ∀ x ∈ t.starts, x ≤ now := forall_getD.1 fun j hj => hzs j (by omega)
  clear hzs hw1 hz
  refine loop_st (S := Nat × State) (fun z => [(3, I now), (5, .hptr 0 11 0 0), (6, .hptr 1 5 0 0), (7, .hptr 2 2 0 0), (11, slPr lo), (15, I z.1)])
    (fun z => ⟨3, [(2, some ⟨2, [[I a, I k]], none⟩), (1, some ⟨5, [z.2.fv.map FV.up], none⟩), (0, some ⟨11, [c.fv.map FV.up], none⟩)]⟩)
    (fun z => Good c z.2 ∧ thereB z.2 a k = true ∧ (z = (0, s) ∨ z.1 = 1 ∧ restT ((z.2.allocs.getD a.toNat default).tasks.getD k.toNat default))) (fun z => 3 - z.1) (0, s)
    (Wk.cut rfl ⟨⟨rfl, rfl⟩, ⟨rfl, rfl⟩, ⟨rfl, rfl⟩, ⟨rfl, rfl⟩, ⟨rfl, rfl⟩, ⟨rfl, rfl⟩, trivial⟩ ⟨⟨rfl, rfl, row1 rfl, nofun⟩, ⟨rfl, rfl, row1 rfl, nofun⟩, ⟨rfl, rfl, row1 rfl, nofun⟩, trivial⟩) ⟨⟨hE, hw⟩, hth, .inl rfl⟩ ?_
  rintro ⟨n, st⟩ ⟨hG, hth2, hrest⟩
  dsimp only at hG hth2 hrest
  have hn1 : n ≤ 1 := by
    rcases hrest with h | h
    · cases h; omega
    · omega
  have hT' := of_decide_eq_true (show decide ((0 ≤ a ∧ a < st.allocs.length) ∧ 0 ≤ k ∧ k < (st.allocs.getD a.toNat default).tasks.length) = true from hth2)
  obtain ⟨⟨hb1, hb2⟩, hb3, hb4⟩ := hT'
  have hLo := planLook_ok c st a k false now lo (good_few hG.1) hG.2 hG.1 hth2 hnow2
  have hlf := look_facts (ownT st a k) lo (lookK c st false now)
  generalize lookL (ownT st a k) (lookK c st false now) lo = K at hLo hlf
  have hKn : (lookX K).now = now := hlf.1
  have hKa : (lookX K).has = true → (lookX K).proc.alive = false := fun h => by
    rcases hlf.2.2.2 h with ⟨h1, h2⟩ | h1
    · cases h1
    · exact hal _ h1
  clear hlf
  have herr : errT ((st.allocs.getD a.toNat default).tasks.getD k.toNat default) = 0 := ((stE_iff.1 hG.1).2.each _ (mem_at (by omega))).2.2.2.2.2.2 k.toNat (by omega) |>.1
  have hset := next_settle (K := lookX K) herr (hG.2 _ _) rfl hKa
  have hNx := next_ok (K := lookX K) herr (hG.2 _ _)
  have hRk := rec_ok (s := st) (t := (st.allocs.getD a.toNat default).tasks.getD k.toNat default) (K := lookX K) (K2 := lookX K) hth2
  have hPl := plan_ok (c := c) (K := lookX K) hG hth2 hnow2
  have hrt : n = 1 → restT ((st.allocs.getD a.toNat default).tasks.getD k.toNat default) := fun h1 => by
    rcases hrest with h | h
    · cases h; omega
    · exact h.2
  have hs0 : n = 0 → st = s := fun h1 => by
    rcases hrest with h | h
    · cases h; rfl
    · omega
  clear hrest
  have hw1 : Go.IntKind.i64.wrap ((n : Int) + 1) = ((n + 1 : Nat) : Int) := wrapS (show n < 9223372036854775807 by omega)
  have hOv := taskOver_p ((st.allocs.getD a.toNat default).tasks.getD k.toNat default).state
  have hp0 := hG.2 a.toNat k.toNat
  rcases hset with ⟨hd, hr⟩ | ⟨hd, hr⟩
  · clear hPl hRk hrt hs0
    by_cases e0 : ((st.allocs.getD a.toNat default).tasks.getD k.toNat default).state = 0
    · (refine goS ?_ <;> repeat (intro _ <;> refine goS ?_))
      repeat' ((refine bnS (fun hr h => ?_) (fun hr h => ?_) <;> first | (exfalso; omega) | ((refine goS ?_ <;> repeat (intro _ <;> refine goS ?_)))))
      (first | refine Pure.call (hLo) ?_ | refine HCall.pure (hLo) ?_) <;> (refine goS ?_ <;> repeat (intro _ <;> refine goS ?_))
      repeat' ((refine bnS (fun hr h => ?_) (fun hr h => ?_) <;> first | (exfalso; omega) | ((refine goS ?_ <;> repeat (intro _ <;> refine goS ?_)))))
      (first | refine Pure.call (hNx) ?_ | refine HCall.pure (hNx) ?_) <;> (refine goS ?_ <;> repeat (intro _ <;> refine goS ?_))
      repeat' ((refine bnS (fun hr h => ?_) (fun hr h => ?_) <;> first | (exfalso; omega) | ((refine goS ?_ <;> repeat (intro _ <;> refine goS ?_)))))
      (first | refine Pure.call (hAw) ?_ | refine HCall.pure (hAw) ?_) <;> (refine goS ?_ <;> repeat (intro _ <;> refine goS ?_))
      exact ret_now _ rfl
    by_cases e3 : ((st.allocs.getD a.toNat default).tasks.getD k.toNat default).state = 3
    · (refine goS ?_ <;> repeat (intro _ <;> refine goS ?_))
      repeat' ((refine bnS (fun hr h => ?_) (fun hr h => ?_) <;> first | (exfalso; omega) | ((refine goS ?_ <;> repeat (intro _ <;> refine goS ?_)))))
      (first | refine Pure.call (hLo) ?_ | refine HCall.pure (hLo) ?_) <;> (refine goS ?_ <;> repeat (intro _ <;> refine goS ?_))
      repeat' ((refine bnS (fun hr h => ?_) (fun hr h => ?_) <;> first | (exfalso; omega) | ((refine goS ?_ <;> repeat (intro _ <;> refine goS ?_)))))
      (first | refine Pure.call (hNx) ?_ | refine HCall.pure (hNx) ?_) <;> (refine goS ?_ <;> repeat (intro _ <;> refine goS ?_))
      repeat' ((refine bnS (fun hr h => ?_) (fun hr h => ?_) <;> first | (exfalso; omega) | ((refine goS ?_ <;> repeat (intro _ <;> refine goS ?_)))))
      (first | refine Pure.call (hAw) ?_ | refine HCall.pure (hAw) ?_) <;> (refine goS ?_ <;> repeat (intro _ <;> refine goS ?_))
      exact ret_now _ rfl
    have ho : overT ((st.allocs.getD a.toNat default).tasks.getD k.toNat default).state := by
      rcases hr with h | h | h
      · exact absurd h e0
      · exact absurd h e3
      · exact h
    rw [decide_eq_true ho] at hOv
    (refine goS ?_ <;> repeat (intro _ <;> refine goS ?_))
    repeat' ((refine bnS (fun hr h => ?_) (fun hr h => ?_) <;> first | (exfalso; omega) | ((refine goS ?_ <;> repeat (intro _ <;> refine goS ?_)))))
    (first | refine Pure.call (hLo) ?_ | refine HCall.pure (hLo) ?_) <;> (refine goS ?_ <;> repeat (intro _ <;> refine goS ?_))
    repeat' ((refine bnS (fun hr h => ?_) (fun hr h => ?_) <;> first | (exfalso; omega) | ((refine goS ?_ <;> repeat (intro _ <;> refine goS ?_)))))
    (first | refine Pure.call (hNx) ?_ | refine HCall.pure (hNx) ?_) <;> (refine goS ?_ <;> repeat (intro _ <;> refine goS ?_))
    repeat' ((refine bnS (fun hr h => ?_) (fun hr h => ?_) <;> first | (exfalso; omega) | ((refine goS ?_ <;> repeat (intro _ <;> refine goS ?_)))))
    (first | refine Pure.call (hOv) ?_ | refine HCall.pure (hOv) ?_) <;> (refine goS ?_ <;> repeat (intro _ <;> refine goS ?_))
    repeat' ((refine bnS (fun hr h => ?_) (fun hr h => ?_) <;> first | (exfalso; omega) | ((refine goS ?_ <;> repeat (intro _ <;> refine goS ?_)))))
    (first | refine Pure.call (hAw) ?_ | refine HCall.pure (hAw) ?_) <;> (refine goS ?_ <;> repeat (intro _ <;> refine goS ?_))
    exact ret_now _ rfl
  have hn0 : n = 0 := by
    rcases Nat.lt_or_ge 0 n with h | h
    · exact absurd (hrt (by omega)) hr
    · omega
  have hss := hs0 hn0
  subst hss
  have hb : recB st a k (nextG ((st.allocs.getD a.toNat default).tasks.getD k.toNat default) (lookX K)) = true := by
    unfold recB
    rw [hth2, hd]; rfl
  obtain ⟨z, hz1, hap⟩ := hPl (by rw [htt]; exact hst) hnx hKn (fun _ h2 => by omega) hb
  have hrk : recR st a k (nextG ((st.allocs.getD a.toNat default).tasks.getD k.toNat default) (lookX K)) (lookX K) = ⟨8, 0, default, (st.allocs.getD a.toNat default).spec.id, k, (lookX K).now, 0, 0, 0, (nextG ((st.allocs.getD a.toNat default).tasks.getD k.toNat default) (lookX K)).code⟩ := by
    unfold recR
    rw [if_neg (fun h => h.elim (fun h => by rw [hth2] at h; cases h) fun h => by omega), if_neg (by omega), if_neg (by omega), if_pos hd]
  rw [hb] at hRk
  have hz0 : (applyF c st (recR st a k (nextG ((st.allocs.getD a.toNat default).tasks.getD k.toNat default) (lookX K)) (lookX K))).1 = 0 := by rw [hap]
  have hg2 := apply_keeps hG.2 hz0
  have hA := apply_p c st (recR st a k (nextG ((st.allocs.getD a.toNat default).tasks.getD k.toNat default) (lookX K)) (lookX K)) (good_few hG.1) hG.2 (by rw [hrk]; show (0 : Int) ≤ 8; omega)
  rw [hap] at hg2 hA
  have hi : a.toNat < st.allocs.length := by omega
  have hj : k.toNat < (st.allocs.getD a.toNat default).tasks.length := by omega
  have hza : z.state = 3 ∨ z.state = 6 ∨ z.state = 7 := by
    rw [hrk] at hz1
    have h8 : exitT ((st.allocs.getD a.toNat default).tasks.getD k.toNat default) ((st.allocs.getD a.toNat default).spec.tasks.getD k.toNat default).policy (st.allocs.getD a.toNat default).stop (nextG ((st.allocs.getD a.toNat default).tasks.getD k.toNat default) (lookX K)).code (lookX K).now = (0, z) := hz1
    have := exit_rest (by rw [h8])
    rw [h8] at this
    exact this
  have hal2 : (turnS st a.toNat k.toNat (recR st a k (nextG ((st.allocs.getD a.toNat default).tasks.getD k.toNat default) (lookX K)) (lookX K)) z).allocs.getD a.toNat default = (st.allocs.getD a.toNat default).put (st.allocs.getD a.toNat default).stop ((st.allocs.getD a.toNat default).tasks.set k.toNat z) := (getD_set hi).trans (if_pos rfl)
  have hth3 : thereB (turnS st a.toNat k.toNat (recR st a k (nextG ((st.allocs.getD a.toNat default).tasks.getD k.toNat default) (lookX K)) (lookX K)) z) a k = true := by
    refine decide_eq_true (⟨⟨hb1, ?_⟩, hb3, ?_⟩ : (0 ≤ a ∧ a < _) ∧ 0 ≤ k ∧ k < _)
    · show a < ((st.allocs.set _ _).length : Int)
      rw [List.length_set]; exact hb2
    · rw [hal2]
      show k < (((st.allocs.getD a.toNat default).tasks.set _ _).length : Int)
      rw [List.length_set]; exact hb4
  have hre3 : restT (((turnS st a.toNat k.toNat (recR st a k (nextG ((st.allocs.getD a.toNat default).tasks.getD k.toNat default) (lookX K)) (lookX K)) z).allocs.getD a.toNat default).tasks.getD k.toNat default) := by
    rw [hal2]
    show restT (((st.allocs.getD a.toNat default).tasks.set k.toNat z).getD k.toNat default)
    rw [getD_set hj, if_pos rfl]
    unfold restT overT
    omega
  generalize turnS st a.toNat k.toNat (recR st a k (nextG ((st.allocs.getD a.toNat default).tasks.getD k.toNat default) (lookX K)) (lookX K)) z = s2 at *
  clear hal2 hza hz1 hap hrk hz0 hPl hOv
  (refine goS ?_ <;> repeat (intro _ <;> refine goS ?_))
  repeat' ((refine bnS (fun hr h => ?_) (fun hr h => ?_) <;> first | (exfalso; omega) | ((refine goS ?_ <;> repeat (intro _ <;> refine goS ?_)))))
  (first | refine Pure.call (hLo) ?_ | refine HCall.pure (hLo) ?_) <;> (refine goS ?_ <;> repeat (intro _ <;> refine goS ?_))
  repeat' ((refine bnS (fun hr h => ?_) (fun hr h => ?_) <;> first | (exfalso; omega) | ((refine goS ?_ <;> repeat (intro _ <;> refine goS ?_)))))
  (first | refine Pure.call (hNx) ?_ | refine HCall.pure (hNx) ?_) <;> (refine goS ?_ <;> repeat (intro _ <;> refine goS ?_))
  repeat' ((refine bnS (fun hr h => ?_) (fun hr h => ?_) <;> first | (exfalso; omega) | ((refine goS ?_ <;> repeat (intro _ <;> refine goS ?_)))))
  (first | refine Pure.call (hRk) ?_ | refine HCall.pure (hRk) ?_) <;> (refine goS ?_ <;> repeat (intro _ <;> refine goS ?_))
  repeat' ((refine bnS (fun hr h => ?_) (fun hr h => ?_) <;> first | (exfalso; omega) | ((refine goS ?_ <;> repeat (intro _ <;> refine goS ?_)))))
  (first | refine Pure.call (hA) ?_ | refine HCall.pure (hA) ?_) <;> (refine goS ?_ <;> repeat (intro _ <;> refine goS ?_))
  repeat' ((refine bnS (fun hr h => ?_) (fun hr h => ?_) <;> first | (exfalso; omega) | ((refine goS ?_ <;> repeat (intro _ <;> refine goS ?_)))))
  exact ⟨(n + 1, s2), by dsimp only; omega, ⟨hg2, hth3, .inr ⟨by dsimp only; omega, hre3⟩⟩, Wk.cut rfl ⟨⟨rfl, rfl⟩, ⟨rfl, rfl⟩, ⟨rfl, rfl⟩, ⟨rfl, rfl⟩, ⟨rfl, rfl⟩, ⟨congrArg I hw1, rfl⟩, trivial⟩ ⟨⟨rfl, rfl, row1 rfl, nofun⟩, ⟨rfl, rfl, row1 rfl, nofun⟩, ⟨rfl, rfl, row1 rfl, nofun⟩, trivial⟩⟩
end Go.Proofs.YtdblhmpcilihnaaGreat
