/- Room: what the allocations that are not over use. Ports of different allocations. The tasks of an allocation. The reference's test of allocations, and that they have nothing in common. The reference: no two allocations have something in common. state.Check and the reference's: one answer. state.Check: the program's. Which process is current, which is kept. The lease; which processes a recovery keeps. Strays and Kept. Strays and Kept. -/
import Derived.Test.YtdblhmpcilihnaaGreatM2
import Derived.Test.YtdblhmpcilihnaaGreatM3
import Derived.Test.YtdblhmpcilihnaaGreatPConv
import Derived.Test.YtdblhmpcilihnaaGreatC5
namespace Go.Proofs.YtdblhmpcilihnaaGreat
open Go.RowKit E
set_option maxRecDepth 100000
set_option linter.unusedVariables false
set_option linter.unusedSimpArgs false
noncomputable def live (l : List Alloc) : List Alloc := l.filter fun a => !overB a
theorem live_snoc (l : List Alloc) (a : Alloc) : live (l ++ [a]) = if overB a = true then live l else live l ++ [a] := by
  unfold live
  rw [List.filter_append]
  by_cases h : overB a = true <;> simp [h]
theorem takeS {α : Type} [Inhabited α] {l : List α} {k : Nat} (h : k < l.length) : l.take (k + 1) = l.take k ++ [l.getD k default] := by
  rw [List.take_succ_eq_append_getElem h, List.getD_eq_getElem?_getD, List.getElem?_eq_getElem h]; rfl
theorem live_len (l : List Alloc) : (live l).length ≤ l.length := List.length_filter_le _ _
noncomputable def usedR (l : List Alloc) : List Res := (live l).map fun a => a.spec.res
noncomputable def usedP (l : List Alloc) : List (List Int) := (live l).map fun a => a.spec.ports
noncomputable def roomB (c : Config) (l : List Res) : Bool := match sumR ⟨0, 0, 0⟩ l with
  | some x => decide (x.le c.cap)
  | none => false
theorem fv0 (xs : List Res) (i : Nat) (h : i < xs.length) : (xs.map fun r => (Res.fv r).map FV.up)[i]? = some ((Res.fv (xs.getD i default)).map FV.up) := by
  simp [List.getD_eq_getElem?_getD, h]
theorem room_p (c : Config) (s : State) (m : Res) (hs : s.allocs.length ≤ 1000) : Pure Tryz.prog 67 [c.av, s.av, m.av] (B (roomB c (m :: usedR s.allocs))) := by
  refine Pure.ev Tryz.f67 mx Tryz.func67 (by kernel_rfl) rfl rfl rfl ?_ <;> (refine goS ?_ <;> repeat (intro _ <;> refine goS ?_))
  refine loop_st (S := Nat) (fun k => [(3, .hptr 0 11 0 0), (7, .hsl 3 3 0 (1 + (usedR (s.allocs.take k)).length) (1 + (usedR (s.allocs.take k)).length) false), (15, .sl 10 s.allocs.length fun i => Alloc.fv (s.allocs.getD i default)), (16, I s.allocs.length), (17, I k)])
    (fun k => ⟨4, [(3, some ⟨3, (m :: usedR (s.allocs.take k)).map fun r => (Res.fv r).map FV.up, none⟩), (0, some ⟨11, [c.fv.map FV.up], none⟩)]⟩) (fun k => k ≤ s.allocs.length) (fun k => s.allocs.length - k) 0
    ((Wk.exf 7 rfl).trans (Wk.cut rfl ⟨⟨rfl, rfl⟩, ⟨rfl, rfl⟩, ⟨rfl, rfl⟩, ⟨rfl, rfl⟩, ⟨rfl, rfl⟩, trivial⟩ ⟨⟨rfl, rfl, row1 rfl, nofun⟩, ⟨rfl, rfl, row1 rfl, nofun⟩, trivial⟩)) (Nat.zero_le _) ?_
  rintro k hk
  (refine goS ?_ <;> repeat (intro _ <;> refine goS ?_))
  (refine bnS (fun hr h => ?_) (fun hr h => ?_) <;> first | (exact False.elim h) | ((refine goS ?_ <;> repeat (intro _ <;> refine goS ?_))))
  · have hk2 : k < s.allocs.length := h
    (first | refine Pure.call (stateOver_p (s.allocs.getD k default)) ?_ | refine HCall.pure (stateOver_p (s.allocs.getD k default)) ?_) <;> (refine goS ?_ <;> repeat (intro _ <;> refine goS ?_))
    have hn : usedR (s.allocs.take (k + 1)) = if overB (s.allocs.getD k default) = true then usedR (s.allocs.take k) else usedR (s.allocs.take k) ++ [(s.allocs.getD k default).spec.res] := by
      unfold usedR
      rw [takeS hk2, live_snoc]
      split <;> simp
    have hl : (usedR (s.allocs.take k)).length ≤ k := by
      unfold usedR
      rw [List.length_map]
      exact Nat.le_trans (live_len _) (by simp; omega)
    cases ho : overB (s.allocs.getD k default)
    · rw [ho, if_neg (by simp)] at hn
      have hh : 0 + (1 + (usedR (s.allocs.take k)).length) = ((m :: usedR (s.allocs.take k)).map fun r => (Res.fv r).map FV.up).length ∧ oneRows [(Res.fv (s.allocs.getD k default).spec.res).map FV.up] ∧ ((1 + (usedR (s.allocs.take k)).length) + 1) * 24 ≤ 140737488355328 := ⟨by simp; omega, oneRows_of rfl, by omega⟩
      (refine goS ?_ <;> repeat (intro _ <;> refine goS ?_))
      refine And.intro hh ?_ <;> (refine goS ?_ <;> repeat (intro _ <;> refine goS ?_))
      exact ⟨k + 1, by omega, h, Wk.re (fun i => if i = 3 then 6 else i) rfl (nofun) (injL rfl) ⟨⟨rfl, rfl⟩, ⟨by rw [hn, List.length_append]; rfl, rfl⟩, ⟨rfl, rfl⟩, ⟨rfl, rfl⟩, ⟨by simp only [← wrapS (show k < 9223372036854775807 by omega)]; rfl, rfl⟩, trivial⟩
        ⟨⟨rfl, _, rfl, .inl ⟨by rw [hn, ← List.cons_append, List.map_append]; rfl, free_map⟩, nofun⟩, ⟨rfl, _, rfl, .inl ⟨rfl, free1 rfl⟩, nofun⟩, trivial⟩⟩
    · rw [ho, if_pos rfl] at hn
      (refine goS ?_ <;> repeat (intro _ <;> refine goS ?_))
      exact ⟨k + 1, by omega, h, Wk.cut rfl ⟨⟨rfl, rfl⟩, ⟨by rw [hn]; rfl, rfl⟩, ⟨rfl, rfl⟩, ⟨rfl, rfl⟩, ⟨by simp only [← wrapS (show k < 9223372036854775807 by omega)]; rfl, rfl⟩, trivial⟩
        ⟨⟨by rw [hn]; rfl, rfl, bd_rows free_map, nofun⟩, ⟨rfl, rfl, row1 rfl, nofun⟩, trivial⟩⟩
  · have hkl : k = s.allocs.length := by omega
    subst hkl
    rw [List.take_length]
    have hp := sum_p (m :: usedR s.allocs)
    have hR : roomB c (m :: usedR s.allocs) = (match sumR ⟨0, 0, 0⟩ (m :: usedR s.allocs) with | some x => decide (x.le c.cap) | none => false) := rfl
    rw [hR]
    cases hS : sumR ⟨0, 0, 0⟩ (m :: usedR s.allocs) with
    | none =>
      rw [hS] at hp
      refine Pure.fz1 hp rfl (by simp; omega) (fun i hi => by rw [Nat.zero_add]; exact fv0 _ i hi) ?_
      (refine goS ?_ <;> repeat (intro _ <;> refine goS ?_))
      exact ret_now _ rfl
    | some x =>
      rw [hS] at hp
      refine Pure.fz1 hp rfl (by simp; omega) (fun i hi => by rw [Nat.zero_add]; exact fv0 _ i hi) ?_
      (refine goS ?_ <;> repeat (intro _ <;> refine goS ?_))
      (first | refine Pure.call (fits_p x c.cap) ?_ | refine HCall.pure (fits_p x c.cap) ?_) <;> (refine goS ?_ <;> repeat (intro _ <;> refine goS ?_))
      exact ret_now _ rfl
theorem fvP (xs : List (List Int)) (i : Nat) (h : i < xs.length) : (xs.map fun l => [slI l])[i]? = some ([slIF (xs.getD i [])].map FV.up) := by
  simp [List.getD_eq_getElem?_getD, h]; rfl
theorem freeP {l : List (List Int)} : ∀ row ∈ l.map (fun x => [slI x]), freeL row = true := fun row h => by
  obtain ⟨x, _, rfl⟩ := List.mem_map.1 h
  rfl
theorem used_p (s : State) (hs : s.allocs.length ≤ 1000) : Pure Tryz.prog 73 [s.av] (.tup [slR (usedR s.allocs), slIs (usedP s.allocs)]) := by
  refine Pure.ev Tryz.f73 mx Tryz.func73 (by kernel_rfl) rfl rfl rfl ?_ <;> (refine goS ?_ <;> repeat (intro _ <;> refine goS ?_))
  refine loop_st (S := Nat) (fun k => [(1, .hptr 0 5 0 0), (4, .hsl 1 3 0 (usedR (s.allocs.take k)).length (usedR (s.allocs.take k)).length false), (5, .hsl 2 1 0 (usedP (s.allocs.take k)).length (usedP (s.allocs.take k)).length false), (6, I k)])
    (fun k => ⟨3, [(2, some ⟨1, (usedP (s.allocs.take k)).map fun l => [slI l], none⟩), (1, some ⟨3, (usedR (s.allocs.take k)).map fun r => (Res.fv r).map FV.up, none⟩), (0, some ⟨5, [s.fv.map FV.up], none⟩)]⟩) (fun k => k ≤ s.allocs.length) (fun k => s.allocs.length - k) 0
    (((Wk.phantom 4 3 rfl).trans (Wk.phantom 5 1 rfl)).trans (Wk.cut rfl ⟨⟨rfl, rfl⟩, ⟨rfl, rfl⟩, ⟨rfl, rfl⟩, ⟨rfl, rfl⟩, trivial⟩ ⟨⟨rfl, rfl, nofun, nofun⟩, ⟨rfl, rfl, nofun, nofun⟩, ⟨rfl, rfl, row1 rfl, nofun⟩, trivial⟩)) (Nat.zero_le _) ?_
  rintro k hk
  (refine goS ?_ <;> repeat (intro _ <;> refine goS ?_))
  (refine bnS (fun hr h => ?_) (fun hr h => ?_) <;> first | (exact False.elim h) | ((refine goS ?_ <;> repeat (intro _ <;> refine goS ?_))))
  · have hk2 : k < s.allocs.length := h
    (first | refine Pure.call (refOver_p (s.allocs.getD k default)) ?_ | refine HCall.pure (refOver_p (s.allocs.getD k default)) ?_) <;> (refine goS ?_ <;> repeat (intro _ <;> refine goS ?_))
    have hn : usedR (s.allocs.take (k + 1)) = if overB (s.allocs.getD k default) = true then usedR (s.allocs.take k) else usedR (s.allocs.take k) ++ [(s.allocs.getD k default).spec.res] := by
      unfold usedR
      rw [takeS hk2, live_snoc]
      split <;> simp
    have hn2 : usedP (s.allocs.take (k + 1)) = if overB (s.allocs.getD k default) = true then usedP (s.allocs.take k) else usedP (s.allocs.take k) ++ [(s.allocs.getD k default).spec.ports] := by
      unfold usedP
      rw [takeS hk2, live_snoc]
      split <;> simp
    have hl : (usedR (s.allocs.take k)).length ≤ k := by
      unfold usedR
      rw [List.length_map]
      exact Nat.le_trans (live_len _) (by simp; omega)
    have hl2 : (usedP (s.allocs.take k)).length ≤ k := by
      unfold usedP
      rw [List.length_map]
      exact Nat.le_trans (live_len _) (by simp; omega)
    cases ho : overB (s.allocs.getD k default)
    · rw [ho, if_neg (by simp)] at hn hn2
      have hh : 0 + (usedR (s.allocs.take k)).length = ((usedR (s.allocs.take k)).map fun r => (Res.fv r).map FV.up).length ∧ oneRows [(Res.fv (s.allocs.getD k default).spec.res).map FV.up] ∧ ((usedR (s.allocs.take k)).length + 1) * 24 ≤ 140737488355328 := ⟨by simp, oneRows_of rfl, by omega⟩
      have hh2 : 0 + (usedP (s.allocs.take k)).length = ((usedP (s.allocs.take k)).map fun l => [slI l]).length ∧ oneRows [[slI (s.allocs.getD k default).spec.ports]] ∧ ((usedP (s.allocs.take k)).length + 1) * 24 ≤ 140737488355328 := ⟨by simp, oneRows_of rfl, by omega⟩
      (refine goS ?_ <;> repeat (intro _ <;> refine goS ?_))
      refine And.intro hh ?_ <;> (refine goS ?_ <;> repeat (intro _ <;> refine goS ?_))
      refine And.intro hh2 ?_ <;> (refine goS ?_ <;> repeat (intro _ <;> refine goS ?_))
      exact ⟨k + 1, by omega, h, Wk.re (fun i => if i = 1 then 4 else if i = 2 then 6 else i) rfl (nofun) (injL rfl) ⟨⟨rfl, rfl⟩, ⟨by rw [hn, List.length_append]; rfl, rfl⟩, ⟨by rw [hn2, List.length_append]; rfl, rfl⟩, ⟨by simp only [← wrapS (show k < 9223372036854775807 by omega)]; rfl, rfl⟩, trivial⟩
        ⟨⟨rfl, _, rfl, .inl ⟨by rw [hn2, List.map_append]; rfl, freeP⟩, nofun⟩, ⟨rfl, _, rfl, .inl ⟨by rw [hn, List.map_append]; rfl, free_map⟩, nofun⟩, ⟨rfl, _, rfl, .inl ⟨rfl, free1 rfl⟩, nofun⟩, trivial⟩⟩
    · rw [ho, if_pos rfl] at hn hn2
      (refine goS ?_ <;> repeat (intro _ <;> refine goS ?_))
      exact ⟨k + 1, by omega, h, Wk.cut rfl ⟨⟨rfl, rfl⟩, ⟨by rw [hn]; rfl, rfl⟩, ⟨by rw [hn2]; rfl, rfl⟩, ⟨by simp only [← wrapS (show k < 9223372036854775807 by omega)]; rfl, rfl⟩, trivial⟩
        ⟨⟨by rw [hn2]; rfl, rfl, bd_rows freeP, nofun⟩, ⟨by rw [hn]; rfl, rfl, bd_rows free_map, nofun⟩, ⟨rfl, rfl, row1 rfl, nofun⟩, trivial⟩⟩
  · have hkl : k = s.allocs.length := by omega
    subst hkl
    rw [List.take_length]
    have h1 : Wk 0 [(0, AV.tup [AV.hsl 1 3 0 (usedR s.allocs).length (usedR s.allocs).length false, AV.hsl 2 1 0 (usedP s.allocs).length (usedP s.allocs).length false])]
        ⟨3, [(2, some ⟨1, (usedP s.allocs).map fun l => [slI l], none⟩), (1, some ⟨3, (usedR s.allocs).map fun r => (Res.fv r).map FV.up, none⟩), (0, some ⟨5, [s.fv.map FV.up], none⟩)]⟩ _ _ :=
      Wk.freeze (t := 0) (id := 1) (x1 := AV.tup [slR (usedR s.allocs), AV.hsl 2 1 0 (usedP s.allocs).length (usedP s.allocs).length false]) rfl ⟨⟨⟨⟨rfl, rfl⟩, rfl, rfl⟩, fun i hi => by rw [Nat.zero_add]; exact fv0 _ i hi⟩, rfl, trivial⟩
    have h2 := Wk.freeze (n0 := 0) (fr := [(0, AV.tup [slR (usedR s.allocs), AV.hsl 2 1 0 (usedP s.allocs).length (usedP s.allocs).length false])]) (H := (Hp.set ⟨3, [(2, some ⟨1, (usedP s.allocs).map fun l => [slI l], none⟩), (1, some ⟨3, (usedR s.allocs).map fun r => (Res.fv r).map FV.up, none⟩), (0, some ⟨5, [s.fv.map FV.up], none⟩)]⟩ 1 none))
      (t := 0) (id := 2) (blk := ⟨1, (usedP s.allocs).map fun l => [slI l], none⟩) (x1 := AV.tup [slR (usedR s.allocs), slIs (usedP s.allocs)]) rfl ⟨rfl, ⟨⟨⟨rfl, rfl⟩, rfl, rfl⟩, fun i hi => by rw [Nat.zero_add]; exact fvP _ i hi⟩, trivial⟩
    exact ⟨_, _, (h1.trans (Wk.sub (fr1 := [(0, AV.tup [slR (usedR s.allocs), AV.hsl 2 1 0 (usedP s.allocs).length (usedP s.allocs).length false])]) ⟨rfl, trivial⟩)).trans (h2.trans (Wk.sub (fr1 := [(0, AV.tup [slR (usedR s.allocs), slIs (usedP s.allocs)])]) ⟨rfl, trivial⟩)), rfl⟩
def pdis (l : List (List Int)) : Prop := ∀ i j, j < i → i < l.length → meetF (l.getD i []) (l.getD j []) = []
theorem pdis_nil : pdis [] := fun i j _ h => absurd h (Nat.not_lt_zero _)
theorem pdis_snoc (l : List (List Int)) (x : List Int) : pdis (l ++ [x]) ↔ pdis l ∧ ∀ y ∈ l, meetF x y = [] := by
  constructor
  · intro h
    refine ⟨fun i j hj hi => ?_, fun y hy => ?_⟩
    · have := h i j hj (by simp; omega)
      simpa [List.getD_eq_getElem?_getD, List.getElem?_append_left hi, List.getElem?_append_left (show j < l.length by omega)] using this
    · obtain ⟨j, hj, rfl⟩ := List.getElem_of_mem hy
      have := h l.length j hj (by simp)
      simpa [List.getD_eq_getElem?_getD, List.getElem?_append_left hj, hj] using this
  · rintro ⟨h1, h2⟩ i j hj hi
    by_cases c : i < l.length
    · have := h1 i j hj c
      simpa [List.getD_eq_getElem?_getD, List.getElem?_append_left c, List.getElem?_append_left (show j < l.length by omega)] using this
    · have hil : i = l.length := by simp at hi; omega
      subst hil
      have := h2 (l[j]) (List.getElem_mem hj)
      simpa [List.getD_eq_getElem?_getD, List.getElem?_append_left hj, hj] using this
theorem meet_nil {a b : List Int} : meetF a b = [] ↔ ∀ x, x ∈ a → x ∉ b := by
  rw [List.eq_nil_iff_forall_not_mem]
  simp only [mem_meetF, not_and]
theorem meetLen {a b : List Int} : (meetF a b).length = 0 ↔ meetF a b = [] := List.length_eq_zero_iff
open Classical in
noncomputable def pdisB (l : List (List Int)) : Bool := decide (pdis l)
open Classical in
theorem refFits_p (c : Config) (l : List Res) (p : List (List Int)) (hp : ∀ i, (p.getD i []).length ≤ 1000) : Pure Tryz.prog 74 [c.av, slR l, slIs p] (B (roomB c l && pdisB p)) := by
  have hS := sum09_p l
  have hR : roomB c l = (match sumR ⟨0, 0, 0⟩ l with | some x => decide (x.le c.cap) | none => false) := rfl
  rw [hR]
  cases hc : sumR ⟨0, 0, 0⟩ l with
  | none =>
    rw [hc] at hS
    refine Pure.ev Tryz.f74 mx Tryz.func74 (by kernel_rfl) rfl rfl rfl ?_ <;> (refine goS ?_ <;> repeat (intro _ <;> refine goS ?_))
    (first | refine Pure.call (hS) ?_ | refine HCall.pure (hS) ?_) <;> (refine goS ?_ <;> repeat (intro _ <;> refine goS ?_))
    exact ret_now _ rfl
  | some x =>
    rw [hc] at hS
    refine Pure.ev Tryz.f74 mx Tryz.func74 (by kernel_rfl) rfl rfl rfl ?_ <;> (refine goS ?_ <;> repeat (intro _ <;> refine goS ?_))
    (first | refine Pure.call (hS) ?_ | refine HCall.pure (hS) ?_) <;> (refine goS ?_ <;> repeat (intro _ <;> refine goS ?_))
    (first | refine Pure.call (fits09_p x c.cap) ?_ | refine HCall.pure (fits09_p x c.cap) ?_) <;> (refine goS ?_ <;> repeat (intro _ <;> refine goS ?_))
    by_cases hle : x.le c.cap
    case neg =>
      rw [decide_eq_false hle]
      (refine goS ?_ <;> repeat (intro _ <;> refine goS ?_))
      exact ret_now _ (congrArg B (by simp [hle]))
    rw [decide_eq_true hle]
    (refine goS ?_ <;> repeat (intro _ <;> refine goS ?_))
    refine loop_st (S := Nat) (fun i => [(2, slIs p), (9, I i)]) (fun _ => ⟨2, []⟩) (fun i => i ≤ p.length ∧ ∀ m j, j < m → m < i → meetF (p.getD m []) (p.getD j []) = []) (fun i => p.length - i) 0
      (Wk.cut rfl ⟨⟨rfl, rfl⟩, ⟨rfl, rfl⟩, trivial⟩ trivial) ⟨Nat.zero_le _, fun m j _ h => absurd h (Nat.not_lt_zero _)⟩ ?_
    rintro i ⟨hi, hI⟩
    (refine goS ?_ <;> repeat (intro _ <;> refine goS ?_))
    (refine bnS (fun hr h => ?_) (fun hr h => ?_) <;> first | (exact False.elim h) | ((refine goS ?_ <;> repeat (intro _ <;> refine goS ?_))))
    · have hi2 : i < p.length := h
      refine loop_st (S := Nat) (fun j => [(2, slIs p), (9, I i), (10, I j)]) (fun _ => ⟨2, []⟩) (fun j => j ≤ i ∧ ∀ m, m < j → meetF (p.getD i []) (p.getD m []) = []) (fun j => i - j) 0
        (Wk.cut rfl ⟨⟨rfl, rfl⟩, ⟨rfl, rfl⟩, ⟨rfl, rfl⟩, trivial⟩ trivial) ⟨Nat.zero_le _, fun m h => absurd h (Nat.not_lt_zero _)⟩ ?_
      rintro j ⟨hj, hJ⟩
      (refine goS ?_ <;> repeat (intro _ <;> refine goS ?_))
      (refine bnS (fun hr h => ?_) (fun hr h => ?_) <;> first | (exact False.elim h) | ((refine goS ?_ <;> repeat (intro _ <;> refine goS ?_))))
      · have hj2 : j < i := h
        (first | refine Pure.call (refMeet_p (p.getD i []) (p.getD j []) (by have := hp i; omega)) ?_ | refine HCall.pure (refMeet_p (p.getD i []) (p.getD j []) (by have := hp i; omega)) ?_) <;> (refine goS ?_ <;> repeat (intro _ <;> refine goS ?_))
        (refine bnS (fun hr h => ?_) (fun hr h => ?_) <;> first | (exact False.elim h) | ((refine goS ?_ <;> repeat (intro _ <;> refine goS ?_))))
        · refine ret_now _ (congrArg B ?_)
          have : ¬ pdis p := fun ho => by have := ho i j hj2 hi2; rw [this] at h; simp at h
          simp [pdisB, this]
        · have h0 : meetF (p.getD i []) (p.getD j []) = [] := by
            rcases List.eq_nil_or_concat (meetF (p.getD i []) (p.getD j [])) with e | ⟨a, b, e⟩
            · exact e
            · rw [e] at h; simp at h
          exact ⟨j + 1, by omega, ⟨by omega, fun m hm => by
            rcases Nat.lt_succ_iff_lt_or_eq.1 hm with h1 | rfl
            · exact hJ m h1
            · exact h0⟩, Wk.sub ⟨rfl, rfl, by simp only [← wrapS (show j < 9223372036854775807 by omega)]; rfl, trivial⟩⟩
      · have hji : j = i := by omega
        subst hji
        exact ⟨j + 1, by omega, ⟨by omega, fun m q hq hm => by
          rcases Nat.lt_succ_iff_lt_or_eq.1 hm with h1 | rfl
          · exact hI m q hq h1
          · exact hJ q hq⟩, Wk.sub ⟨rfl, by simp only [← wrapS (show j < 9223372036854775807 by omega)]; rfl, trivial⟩⟩
    · refine ret_now _ (congrArg B ?_)
      have : pdis p := fun m j hj hm => hI m j hj (by omega)
      simp [pdisB, this, hle]
theorem unionF_mem2 {a b : List Int} {x : Int} : x ∈ unionF [a, b] ↔ x ∈ a ∨ x ∈ b := by
  rw [mem_unionF]; simp
open Classical in
theorem apart_p (s : State) (hs : s.allocs.length ≤ 1000) (hp : ∀ i, i < s.allocs.length → (s.allocs.getD i default).spec.ports.length ≤ 1000)
    (hw : ∀ i, i < s.allocs.length → ∀ x ∈ (s.allocs.getD i default).spec.ports, (Lit.int .i64 x).wf = true) : Pure Tryz.prog 68 [s.av] (B (pdisB (usedP s.allocs))) := by
  refine Pure.ev Tryz.f68 mx Tryz.func68 (by kernel_rfl) rfl rfl rfl ?_ <;> (refine goS ?_ <;> repeat (intro _ <;> refine goS ?_))
  refine loop_st (S := Nat × List Int) (fun z => [(3, slI z.2), (7, .sl 10 s.allocs.length fun i => Alloc.fv (s.allocs.getD i default)), (8, I s.allocs.length), (9, I z.1)]) (fun _ => ⟨1, []⟩)
    (fun z => z.1 ≤ s.allocs.length ∧ pdis (usedP (s.allocs.take z.1)) ∧ (∀ x, x ∈ z.2 ↔ ∃ l ∈ usedP (s.allocs.take z.1), x ∈ l) ∧ z.2.length ≤ z.1 * 1000 ∧ ∀ x ∈ z.2, (Lit.int .i64 x).wf = true) (fun z => s.allocs.length - z.1) (0, [])
    ((Wk.nil 3 1 (fun i => [.val (.int .i64 (([] : List Int).getD i 0))]) rfl).trans (Wk.cut rfl ⟨⟨rfl, rfl⟩, ⟨rfl, rfl⟩, ⟨rfl, rfl⟩, ⟨rfl, rfl⟩, trivial⟩ trivial)) ⟨Nat.zero_le _, pdis_nil, fun x => by simp [usedP, live], by simp, nofun⟩ ?_
  rintro ⟨k, u⟩ ⟨hk, hd, hu, hl, hwu⟩
  dsimp only at hk hd hu hl hwu
  (refine goS ?_ <;> repeat (intro _ <;> refine goS ?_))
  (refine bnS (fun hr h => ?_) (fun hr h => ?_) <;> first | (exact False.elim h) | ((refine goS ?_ <;> repeat (intro _ <;> refine goS ?_))))
  · have hk2 : k < s.allocs.length := h
    have hn : usedP (s.allocs.take (k + 1)) = if overB (s.allocs.getD k default) = true then usedP (s.allocs.take k) else usedP (s.allocs.take k) ++ [(s.allocs.getD k default).spec.ports] := by
      unfold usedP
      rw [takeS hk2, live_snoc]
      split <;> simp
    (first | refine Pure.call (stateOver_p (s.allocs.getD k default)) ?_ | refine HCall.pure (stateOver_p (s.allocs.getD k default)) ?_) <;> (refine goS ?_ <;> repeat (intro _ <;> refine goS ?_))
    cases ho : overB (s.allocs.getD k default)
    · rw [ho, if_neg (by simp)] at hn
      have hpk := hp k hk2
      have hwk := hw k hk2
      (refine goS ?_ <;> repeat (intro _ <;> refine goS ?_))
      (first | refine Pure.call (meet_p u (s.allocs.getD k default).spec.ports (by omega) (by omega) hwu hwk) ?_ | refine HCall.pure (meet_p u (s.allocs.getD k default).spec.ports (by omega) (by omega) hwu hwk) ?_) <;> (refine goS ?_ <;> repeat (intro _ <;> refine goS ?_))
      have hkey : meetF u (s.allocs.getD k default).spec.ports = [] ↔ ∀ y ∈ usedP (s.allocs.take k), meetF (s.allocs.getD k default).spec.ports y = [] := by
        rw [meet_nil]
        constructor
        · intro h y hy
          rw [meet_nil]
          intro x hx hxy
          exact h x ((hu x).2 ⟨y, hy, hxy⟩) hx
        · intro h x hx hxp
          obtain ⟨y, hy, hxy⟩ := (hu x).1 hx
          exact meet_nil.1 (h y hy) x hxp hxy
      (refine bnS (fun hr h => ?_) (fun hr h => ?_) <;> first | (exact False.elim h) | ((refine goS ?_ <;> repeat (intro _ <;> refine goS ?_))))
      · refine ret_now _ (congrArg B ?_)
        have : ¬ pdis (usedP s.allocs) := fun hall => by
          have h1 : usedP s.allocs = usedP (s.allocs.take (k + 1)) ++ usedP (s.allocs.drop (k + 1)) := by
            unfold usedP live
            rw [← List.map_append, ← List.filter_append, List.take_append_drop]
          have h2 : pdis (usedP (s.allocs.take (k + 1))) := fun i j hj hi => by
            have := hall i j hj (by rw [h1]; simp; omega)
            rw [h1] at this
            simpa [List.getD_eq_getElem?_getD, List.getElem?_append_left hi, List.getElem?_append_left (show j < (usedP (s.allocs.take (k + 1))).length by omega)] using this
          rw [hn, pdis_snoc] at h2
          have h3 := hkey.2 h2.2
          rw [h3] at h
          simp at h
        simp [pdisB, this]
      · have h0 : meetF u (s.allocs.getD k default).spec.ports = [] := by
          rcases List.eq_nil_or_concat (meetF u (s.allocs.getD k default).spec.ports) with e | ⟨a, b, e⟩
          · exact e
          · rw [e] at h; simp at h
        refine Pure.fz1 (union2_p u (s.allocs.getD k default).spec.ports (by omega) hwu hwk) rfl rfl (fun i hi => ?_) ?_
        · match i, hi with
          | 0, _ => rfl
          | 1, _ => rfl
        (refine goS ?_ <;> repeat (intro _ <;> refine goS ?_))
        have hlen := unionF_length [u, (s.allocs.getD k default).spec.ports]
        refine ⟨(k + 1, unionF [u, (s.allocs.getD k default).spec.ports]), by dsimp only; omega, ⟨by dsimp only; omega, ?_, fun x => ?_, ?_, fun x hx => ?_⟩, Wk.cut rfl ⟨⟨rfl, rfl⟩, ⟨rfl, rfl⟩, ⟨rfl, rfl⟩, ⟨by simp only [← wrapS (show k < 9223372036854775807 by omega)]; rfl, rfl⟩, trivial⟩ trivial⟩
        · dsimp only; rw [hn, pdis_snoc]; exact ⟨hd, hkey.1 h0⟩
        · dsimp only; rw [hn, unionF_mem2, hu]; simp only [List.mem_append, List.mem_singleton]
          constructor
          · rintro (⟨l, h1, h2⟩ | h1)
            · exact ⟨l, .inl h1, h2⟩
            · exact ⟨_, .inr rfl, h1⟩
          · rintro ⟨l, h1 | rfl, h2⟩
            · exact .inl ⟨l, h1, h2⟩
            · exact .inr h2
        · dsimp only; simp only [List.flatten_cons, List.flatten_nil, List.append_nil, List.length_append] at hlen; omega
        · rcases unionF_mem2.1 hx with h1 | h1
          · exact hwu x h1
          · exact hwk x h1
    · rw [ho, if_pos rfl] at hn
      (refine goS ?_ <;> repeat (intro _ <;> refine goS ?_))
      exact ⟨(k + 1, u), by dsimp only; omega, ⟨by dsimp only; omega, by dsimp only; rw [hn]; exact hd, fun x => by dsimp only; rw [hn]; exact hu x, by dsimp only; omega, hwu⟩, Wk.cut rfl ⟨⟨rfl, rfl⟩, ⟨rfl, rfl⟩, ⟨rfl, rfl⟩, ⟨by simp only [← wrapS (show k < 9223372036854775807 by omega)]; rfl, rfl⟩, trivial⟩ trivial⟩
  · have hkl : k = s.allocs.length := by omega
    subst hkl
    rw [List.take_length] at hd
    exact ret_now _ (congrArg B (by simp [pdisB, hd]))
def endsT (st : Int) : Prop := st = 4 ∨ st = 5 ∨ overT st
def endOk (stop : Bool) (st : Int) : Prop := (stop = true → endsT st) ∧ (stop = false → st ≠ 4)
def tkOk (a : Alloc) (next : Int) (t : Task) : Prop := errT t = 0 ∧ t.inc < next ∧ endOk a.stop t.state
def incT (a : Alloc) (j : Nat) : Int := (a.tasks.getD j default).inc
def tksTo (a : Alloc) (next : Int) (p : Int → Bool) (k : Nat) : Prop := ∀ j, j < k → tkOk a next (a.tasks.getD j default) ∧ (incT a j ≠ 0 → p (incT a j) = false ∧ ∀ i, i < j → incT a i ≠ incT a j)
def tksOk (a : Alloc) (next : Int) (p : Int → Bool) : Prop := a.tasks.length = a.spec.tasks.length ∧ tksTo a next p a.tasks.length
def incMap (a : Alloc) (p : Int → Bool) (k : Nat) (q : Int → Bool) : Prop := ∀ z, q z = true ↔ p z = true ∨ ∃ i, i < k ∧ incT a i = z
theorem tksTo_succ {a : Alloc} {next : Int} {p : Int → Bool} {k : Nat} (h : tksTo a next p k) (h1 : tkOk a next (a.tasks.getD k default)) (h2 : incT a k ≠ 0 → p (incT a k) = false ∧ ∀ i, i < k → incT a i ≠ incT a k) : tksTo a next p (k + 1) := fun j hj => by
  rcases Nat.lt_succ_iff_lt_or_eq.1 hj with h3 | rfl
  · exact h j h3
  · exact ⟨h1, h2⟩
abbrev mapB (p : Int → Bool) : Blk := ⟨0, [], some (.bset .i64 p)⟩
theorem ret_map {n0 : Nat} {x : AV} {H : Hp} {K : AV → Hp → Prop} (q : Int → Bool) (hx : x.bd 1 = true) (hn : Nat.ble n0 1 = true) (hg : H.get 0 = some (mapB q)) (hk : K x ⟨1, [(0, some (mapB q))]⟩) : ∃ x1 H1, Wk n0 [(0, x)] H [(0, x1)] H1 ∧ K x1 H1 :=
  ⟨x, ⟨1, [(0, some (mapB q))]⟩, Wk.cut hn ⟨⟨rfl, hx⟩, trivial⟩ ⟨⟨hg, rfl, nofun, nofun⟩, trivial⟩, hk⟩
open Classical in
set_option maxHeartbeats 4000000 in
theorem tasks_a (a : Alloc) (next : Int) (p : Int → Bool) (hs : ∀ j, 0 ≤ (a.tasks.getD j default).state) :
    E.ACalls Tryz.prog 66 [a.av, I next, .mp 0] ⟨1, [(0, some (mapB p))]⟩ fun x H' => ∃ q, x = B (decide (tksOk a next p)) ∧ H' = ⟨1, [(0, some (mapB q))]⟩ ∧ (tksOk a next p → incMap a p a.tasks.length q) := by
  refine ACalls.ev Tryz.f66 mx Tryz.func66 (by kernel_rfl) rfl ?_ <;> (refine goS ?_ <;> repeat (intro _ <;> refine goS ?_))
  (refine bnS (fun hr h => ?_) (fun hr h => ?_) <;> first | (exact False.elim h) | ((refine goS ?_ <;> repeat (intro _ <;> refine goS ?_))))
  · exact ret_map p rfl rfl rfl ⟨p, by_f fun ho => by have := ho.1; omega, rfl, fun ho => by have := ho.1; omega⟩
  · have hl : a.tasks.length = a.spec.tasks.length := by omega
    refine loop_st (S := Nat × (Int → Bool)) (fun z => [(1, I next), (2, .mp 0), (3, .hptr 1 10 0 0), (19, .sl 8 a.tasks.length fun i => Task.fv (a.tasks.getD i default)), (20, I a.tasks.length), (21, I z.1)])
      (fun z => ⟨2, [(1, some ⟨10, [a.fv.map FV.up], none⟩), (0, some (mapB z.2))]⟩) (fun z => z.1 ≤ a.tasks.length ∧ tksTo a next p z.1 ∧ incMap a p z.1 z.2) (fun z => a.tasks.length - z.1) (0, p)
      (Wk.cut rfl ⟨⟨rfl, rfl⟩, ⟨rfl, rfl⟩, ⟨rfl, rfl⟩, ⟨rfl, rfl⟩, ⟨rfl, rfl⟩, ⟨rfl, rfl⟩, trivial⟩ ⟨⟨rfl, rfl, row1 rfl, nofun⟩, ⟨rfl, rfl, nofun, nofun⟩, trivial⟩) ⟨Nat.zero_le _, fun j hj => absurd hj (Nat.not_lt_zero j), fun z => by simp⟩ ?_
    rintro ⟨k, q⟩ ⟨hk, hT, hq⟩
    dsimp only at hk hT hq
    (refine goS ?_ <;> repeat (intro _ <;> refine goS ?_))
    (refine bnS (fun hr h => ?_) (fun hr h => ?_) <;> first | (exact False.elim h) | ((refine goS ?_ <;> repeat (intro _ <;> refine goS ?_))))
    · have hk2 : k < a.tasks.length := h
      have hqk := hq (incT a k)
      have hnot : (errT (a.tasks.getD k default) = 0 ∧ (a.tasks.getD k default).inc < next ∧ endOk a.stop (a.tasks.getD k default).state ∧ ((a.tasks.getD k default).inc ≠ 0 → q (incT a k) = false) → False) → ¬ tksOk a next p := fun hc ho => by
        obtain ⟨⟨e1, e2, e3⟩, e5⟩ := ho.2 k hk2
        refine hc ⟨e1, e2, e3, fun h0 => ?_⟩
        obtain ⟨f1, f2⟩ := e5 h0
        cases hb : q (incT a k)
        · rfl
        · rcases hqk.1 hb with g | ⟨i, hi, g⟩
          · rw [f1] at g; cases g
          · exact absurd g (f2 i hi)
      have hyes : errT (a.tasks.getD k default) = 0 → (a.tasks.getD k default).inc < next → endOk a.stop (a.tasks.getD k default).state → ((a.tasks.getD k default).inc ≠ 0 → q (incT a k) = false) → tksTo a next p (k + 1) := fun e1 e2 e3 e4 =>
        tksTo_succ hT ⟨e1, e2, e3⟩ fun h0 => by
          have h1 := e4 h0
          refine ⟨?_, fun i hi e => ?_⟩
          · cases hb : p (incT a k)
            · rfl
            · rw [hqk.2 (.inl hb)] at h1; cases h1
          · rw [hqk.2 (.inr ⟨i, hi, e⟩)] at h1; cases h1
      have hmap : incMap a p (k + 1) (fun z => bif decide (z = (a.tasks.getD k default).inc) then true else q z) := fun z => by
        by_cases c : z = (a.tasks.getD k default).inc
        · simp only [c, decide_true, cond_true, true_iff]
          exact .inr ⟨k, by omega, rfl⟩
        · simp only [c, decide_false, cond_false, hq z]
          constructor
          · rintro (h | ⟨i, hi, h⟩)
            · exact .inl h
            · exact .inr ⟨i, by omega, h⟩
          · rintro (h | ⟨i, hi, h⟩)
            · exact .inl h
            · rcases Nat.lt_succ_iff_lt_or_eq.1 hi with h1 | h1
              · exact .inr ⟨i, h1, h⟩
              · rw [h1] at h; exact absurd h.symm c
      clear hq hT hqk
      have hfr := hs k
      (first | refine Pure.call (taskCheck_p _ (hs k)) ?_ | refine HCall.pure (taskCheck_p _ (hs k)) ?_) <;> (refine goS ?_ <;> repeat (intro _ <;> refine goS ?_))
      repeat' (first
        | ((refine bnS (fun hr h => ?_) (fun hr h => ?_) <;> first | (exact False.elim h) | ((refine goS ?_ <;> repeat (intro _ <;> refine goS ?_)))))
        | ((first | refine Pure.call (taskOver_p _) ?_ | refine HCall.pure (taskOver_p _) ?_) <;> (refine goS ?_ <;> repeat (intro _ <;> refine goS ?_))))
      all_goals (clear hfr)
      all_goals first
        | exact ret_map _ rfl rfl rfl ⟨_, by_f (hnot fun hc => by obtain ⟨e1, e2, ⟨e3, e4⟩, e5⟩ := hc; omega), rfl, fun ho => absurd ho (hnot fun hc => by obtain ⟨e1, e2, ⟨e3, e4⟩, e5⟩ := hc; omega)⟩
        | exact ret_map _ rfl rfl rfl ⟨_, by_f (hnot fun hc => by obtain ⟨e1, e2, ⟨e3, e4⟩, e5⟩ := hc; clear hnot hyes hmap; simp only [endsT, overT, incT] at *; simp_all), rfl, fun ho => absurd ho (hnot fun hc => by obtain ⟨e1, e2, ⟨e3, e4⟩, e5⟩ := hc; clear hnot hyes hmap; simp only [endsT, overT, incT] at *; simp_all)⟩
        | exact ⟨(k + 1, _), by dsimp only; omega, ⟨by dsimp only; omega, hyes (by omega) (by omega) ⟨by simp only [endsT, overT] at *; simp_all, by simp only [endsT, overT] at *; simp_all⟩ (by simp only [incT] at *; simp_all), hmap⟩, Wk.cut rfl ⟨⟨rfl, rfl⟩, ⟨rfl, rfl⟩, ⟨rfl, rfl⟩, ⟨rfl, rfl⟩, ⟨rfl, rfl⟩, ⟨by simp only [← wrapS (show k < 9223372036854775807 by omega)]; rfl, rfl⟩, trivial⟩ ⟨⟨rfl, rfl, row1 rfl, nofun⟩, ⟨rfl, rfl, nofun, nofun⟩, trivial⟩⟩
        | skip
    · have hkl : k = a.tasks.length := by omega
      subst hkl
      exact ret_map q rfl rfl rfl ⟨q, by_t ⟨hl, hT⟩, rfl, fun _ => hq⟩
def allTk (a : Alloc) (next : Int) : Prop := ∀ j, j < a.tasks.length → tkOk a next (a.tasks.getD j default)
def allocOk (c : Config) (s : State) (a : Alloc) : Prop := specE a.spec = 0 ∧ 1 ≤ a.life ∧ a.life < s.lives ∧ 0 ≤ a.slot ∧ a.slot < c.allocs ∧ a.tasks.length = a.spec.tasks.length ∧ allTk a s.next
open Classical in
set_option maxHeartbeats 4000000 in
theorem refAlloc_p (c : Config) (s : State) (a : Alloc) (hs : ∀ j, 0 ≤ (a.tasks.getD j default).state) : Pure Tryz.prog 72 [c.av, s.av, a.av] (B (decide (allocOk c s a))) := by
  refine Pure.ev Tryz.f72 mx Tryz.func72 (by kernel_rfl) rfl rfl rfl ?_ <;> (refine goS ?_ <;> repeat (intro _ <;> refine goS ?_))
  (first | refine Pure.call (check13_p a.spec) ?_ | refine HCall.pure (check13_p a.spec) ?_) <;> (refine goS ?_ <;> repeat (intro _ <;> refine goS ?_))
  repeat' ((refine bnS (fun hr h => ?_) (fun hr h => ?_) <;> first | (exact False.elim h) | ((refine goS ?_ <;> repeat (intro _ <;> refine goS ?_)))))
  all_goals first
    | exact ret_now _ (by_f fun ho => by obtain ⟨h1, h2, h3, h4, h5, h6, h7⟩ := ho; first | omega | exact absurd h1 h)
    | skip
  have hA : specE a.spec = 0 := by assumption
  refine loop_st (S := Nat) (fun k => [(4, .hptr 1 5 0 0), (5, .hptr 2 10 0 0), (7, I k)])
    (fun _ => ⟨3, [(2, some ⟨10, [a.fv.map FV.up], none⟩), (1, some ⟨5, [s.fv.map FV.up], none⟩)]⟩) (fun k => k ≤ a.tasks.length ∧ ∀ j, j < k → tkOk a s.next (a.tasks.getD j default)) (fun k => a.tasks.length - k) 0
    (Wk.cut rfl ⟨⟨rfl, rfl⟩, ⟨rfl, rfl⟩, ⟨rfl, rfl⟩, trivial⟩ ⟨⟨rfl, rfl, row1 rfl, nofun⟩, ⟨rfl, rfl, row1 rfl, nofun⟩, trivial⟩) ⟨Nat.zero_le _, fun j hj => absurd hj (Nat.not_lt_zero j)⟩ ?_
  rintro k ⟨hk, hT⟩
  have hall : (∀ j, j < a.tasks.length → tkOk a s.next (a.tasks.getD j default)) → allocOk c s a := fun h => ⟨hA, by omega, by omega, by omega, by omega, by omega, h⟩
  clear hA
  (refine goS ?_ <;> repeat (intro _ <;> refine goS ?_))
  (refine bnS (fun hr h => ?_) (fun hr h => ?_) <;> first | (exact False.elim h) | ((refine goS ?_ <;> repeat (intro _ <;> refine goS ?_))))
  · have hk2 : k < a.tasks.length := h
    have hnot : (errT (a.tasks.getD k default) = 0 ∧ (a.tasks.getD k default).inc < s.next ∧ endOk a.stop (a.tasks.getD k default).state → False) → ¬ allocOk c s a := fun hc ho => by
      obtain ⟨e1, e2, e3⟩ := ho.2.2.2.2.2.2 k hk2
      exact hc ⟨e1, e2, e3⟩
    have hyes : errT (a.tasks.getD k default) = 0 → (a.tasks.getD k default).inc < s.next → endOk a.stop (a.tasks.getD k default).state → ∀ j, j < k + 1 → tkOk a s.next (a.tasks.getD j default) := fun e1 e2 e3 j hj => by
      rcases Nat.lt_succ_iff_lt_or_eq.1 hj with h1 | h1
      · exact hT j h1
      · rw [h1]; exact ⟨e1, e2, e3⟩
    clear hT hall
    (first | refine Pure.call (ref19Check_p _ (hs k)) ?_ | refine HCall.pure (ref19Check_p _ (hs k)) ?_) <;> (refine goS ?_ <;> repeat (intro _ <;> refine goS ?_))
    repeat' (first
      | ((refine bnS (fun hr h => ?_) (fun hr h => ?_) <;> first | (exact False.elim h) | ((refine goS ?_ <;> repeat (intro _ <;> refine goS ?_)))))
      | ((first | refine Pure.call (ref19Over_p _) ?_ | refine HCall.pure (ref19Over_p _) ?_) <;> (refine goS ?_ <;> repeat (intro _ <;> refine goS ?_))))
    all_goals first
      | exact ret_now _ (by_f (hnot fun hc => by obtain ⟨e1, e2, ⟨e3, e4⟩⟩ := hc; omega))
      | exact ret_now _ (by_f (hnot fun hc => by obtain ⟨e1, e2, ⟨e3, e4⟩⟩ := hc; clear hnot hyes; (try simp only [endsT, overT] at *); simp_all))
      | exact ⟨k + 1, by omega, ⟨by omega, hyes (by omega) (by omega) ⟨by (try simp only [endsT, overT] at *); simp_all, by (try simp only [endsT, overT] at *); simp_all⟩⟩, Wk.cut rfl ⟨⟨rfl, rfl⟩, ⟨rfl, rfl⟩, ⟨by simp only [← wrapS (show k < 9223372036854775807 by omega)]; rfl, rfl⟩, trivial⟩ ⟨⟨rfl, rfl, row1 rfl, nofun⟩, ⟨rfl, rfl, row1 rfl, nofun⟩, trivial⟩⟩
  · exact ret_now _ (by_t (hall fun j hj => hT j (by omega)))
/-- The incarnations that are not 0. -/
def incsA (a : Alloc) (k : Nat) : List Int := ((a.tasks.take k).map fun t => t.inc).filter fun n => n ≠ 0
def incsL (l : List Alloc) : List Int := (l.map fun a => incsA a a.tasks.length).flatten
theorem incsL_snoc (l : List Alloc) (a : Alloc) : incsL (l ++ [a]) = incsL l ++ incsA a a.tasks.length := by simp [incsL]
theorem incsA_succ {a : Alloc} {k : Nat} (h : k < a.tasks.length) : incsA a (k + 1) = incsA a k ++ (if incT a k ≠ 0 then [incT a k] else []) := by
  unfold incsA
  rw [takeS h, List.map_append, List.filter_append]
  congr 1
  by_cases c : incT a k = 0 <;> simp [incT] at c <;> simp [incT, c]
def pairOk (s : State) (i k : Nat) : Prop := (s.allocs.getD k default).life ≠ (s.allocs.getD i default).life ∧ (s.allocs.getD k default).slot ≠ (s.allocs.getD i default).slot ∧ (s.allocs.getD k default).spec.id < (s.allocs.getD i default).spec.id
def apartOk (s : State) : Prop := (∀ i, i < s.allocs.length → ∀ k, k < i → pairOk s i k) ∧ (incsL s.allocs).Nodup
theorem nodup_pre {s : State} (h : (incsL s.allocs).Nodup) {i k : Nat} (hi : i < s.allocs.length) (hk : k < (s.allocs.getD i default).tasks.length) (h0 : incT (s.allocs.getD i default) k ≠ 0) : incT (s.allocs.getD i default) k ∉ incsL (s.allocs.take i) ++ incsA (s.allocs.getD i default) k := by
  have e1 : s.allocs = s.allocs.take (i + 1) ++ s.allocs.drop (i + 1) := (List.take_append_drop _ _).symm
  have e2 : incsL s.allocs = incsL (s.allocs.take (i + 1)) ++ incsL (s.allocs.drop (i + 1)) := by
    unfold incsL
    rw [← List.flatten_append, ← List.map_append, List.take_append_drop]
  rw [e2, takeS hi, incsL_snoc] at h
  have h1 := (List.nodup_append.1 h).1
  generalize s.allocs.getD i default = a at *
  have e3 : ∃ r, incsA a a.tasks.length = incsA a (k + 1) ++ r := ⟨((a.tasks.drop (k + 1)).map fun t => t.inc).filter fun n => n ≠ 0, by
    unfold incsA
    rw [List.take_length, ← List.filter_append, ← List.map_append, List.take_append_drop]⟩
  obtain ⟨r, e3⟩ := e3
  rw [e3, incsA_succ hk, if_pos h0, ← List.append_assoc] at h1
  have h2 := (List.nodup_append.1 h1).1
  rw [← List.append_assoc] at h2
  intro hm
  have := List.nodup_append.1 h2
  exact this.2.2 _ hm _ (List.mem_singleton.2 rfl) rfl
abbrev rowsI (L : List Int) : List (List AV) := L.map fun x => [I x]
theorem freeI {L : List Int} : ∀ row ∈ rowsI L, freeL row = true := fun row h => by
  obtain ⟨x, _, rfl⟩ := List.mem_map.1 h
  rfl
theorem rowsI_at {L : List Int} {n : Nat} (h : n < L.length) : (rowsI L)[0 + ((n : Int)).toNat]? = some [I (L.getD n 0)] := by
  simp [rowsI, List.getD_eq_getElem?_getD, h]
abbrev frA (i : Nat) (L : List Int) : Fr := [(1, .hptr 0 5 0 0), (3, .hsl 1 1 0 L.length L.length false), (4, I i)]
abbrev hpA (s : State) (L : List Int) : Hp := ⟨2, [(1, some ⟨1, rowsI L, none⟩), (0, some ⟨5, [s.fv.map FV.up], none⟩)]⟩
abbrev hpB (s : State) (L : List Int) (a : Alloc) : Hp := ⟨3, [(2, some ⟨10, [a.fv.map FV.up], none⟩), (1, some ⟨1, rowsI L, none⟩), (0, some ⟨5, [s.fv.map FV.up], none⟩)]⟩
theorem incsA_le (a : Alloc) (k : Nat) : (incsA a k).length ≤ a.tasks.length := by
  unfold incsA
  refine Nat.le_trans (List.length_filter_le _ _) ?_
  simp; omega
theorem incsL_len (l : List Alloc) (h : ∀ a ∈ l, a.tasks.length ≤ 1000) : (incsL l).length ≤ l.length * 1000 := by
  unfold incsL
  induction l with
  | nil => simp
  | cons a l ih =>
    have h1 := ih fun b hb => h b (List.mem_cons_of_mem _ hb)
    have h2 := h a (List.mem_cons_self ..)
    have h3 := incsA_le a a.tasks.length
    simp only [List.map_cons, List.flatten_cons, List.length_append, List.length_cons]
    omega
open Classical in
set_option maxHeartbeats 4000000 in
theorem refApart_p (s : State) (hn : s.allocs.length ≤ 1000) (ht : ∀ i, (s.allocs.getD i default).tasks.length ≤ 1000) : Pure Tryz.prog 71 [s.av] (B (decide (apartOk s))) := by
  have hlen : ∀ i, i ≤ s.allocs.length → (incsL (s.allocs.take i)).length ≤ 1000000 := fun i hi => by
    have := incsL_len (s.allocs.take i) fun a ha => by
      obtain ⟨j, hj, rfl⟩ := List.getElem_of_mem (List.mem_of_mem_take ha)
      have := ht j
      simpa [List.getD_eq_getElem?_getD, hj] using this
    simp at this
    omega
  refine Pure.ev Tryz.f71 mx Tryz.func71 (by kernel_rfl) rfl rfl rfl ?_ <;> (refine goS ?_ <;> repeat (intro _ <;> refine goS ?_))
  refine loop_st (S := Nat) (fun i => frA i (incsL (s.allocs.take i))) (fun i => hpA s (incsL (s.allocs.take i)))
    (fun i => i ≤ s.allocs.length ∧ (∀ m, m < i → ∀ k, k < m → pairOk s m k) ∧ (incsL (s.allocs.take i)).Nodup) (fun i => s.allocs.length - i) 0
    ((Wk.phantom 3 1 rfl).trans (Wk.cut rfl ⟨⟨rfl, rfl⟩, ⟨rfl, rfl⟩, ⟨rfl, rfl⟩, trivial⟩ ⟨⟨rfl, rfl, nofun, nofun⟩, ⟨rfl, rfl, row1 rfl, nofun⟩, trivial⟩)) ⟨Nat.zero_le _, fun m hm => absurd hm (Nat.not_lt_zero m), List.nodup_nil⟩ ?_
  rintro i ⟨hi, hP, hN⟩
  have hL := hlen i hi
  generalize hLe : incsL (s.allocs.take i) = L at hN hL ⊢
  (refine goS ?_ <;> repeat (intro _ <;> refine goS ?_))
  (refine bnS (fun hr h => ?_) (fun hr h => ?_) <;> first | (exact False.elim h) | ((refine goS ?_ <;> repeat (intro _ <;> refine goS ?_))))
  · have hi2 : i < s.allocs.length := h
    -- the allocations ahead
    refine loop_st (S := Nat) (fun k => (5, .hptr 2 10 0 0) :: (6, I k) :: frA i L) (fun _ => hpB s L (s.allocs.getD i default)) (fun k => k ≤ i ∧ ∀ m, m < k → pairOk s i m) (fun k => i - k) 0
      (Wk.cut rfl ⟨⟨rfl, rfl⟩, ⟨rfl, rfl⟩, ⟨rfl, rfl⟩, ⟨rfl, rfl⟩, ⟨rfl, rfl⟩, trivial⟩ ⟨⟨rfl, rfl, row1 rfl, nofun⟩, ⟨rfl, rfl, bd_rows freeI, nofun⟩, ⟨rfl, rfl, row1 rfl, nofun⟩, trivial⟩) ⟨Nat.zero_le _, fun m hm => absurd hm (Nat.not_lt_zero m)⟩ ?_
    rintro k ⟨hk, hQ⟩
    (refine goS ?_ <;> repeat (intro _ <;> refine goS ?_))
    (refine bnS (fun hr h => ?_) (fun hr h => ?_) <;> first | (exact False.elim h) | ((refine goS ?_ <;> repeat (intro _ <;> refine goS ?_))))
    · have hk2 : k < i := h
      repeat' ((refine bnS (fun hr h => ?_) (fun hr h => ?_) <;> first | (exact False.elim h) | ((refine goS ?_ <;> repeat (intro _ <;> refine goS ?_)))))
      all_goals first
        | exact ret_now _ (by_f fun ho => by have := ho.1 i hi2 k hk2; unfold pairOk at this; omega)
        | exact ⟨k + 1, by omega, ⟨by omega, fun m hm => by
            rcases Nat.lt_succ_iff_lt_or_eq.1 hm with h1 | h1
            · exact hQ m h1
            · rw [h1]; unfold pairOk; omega⟩, Wk.cut rfl ⟨⟨rfl, rfl⟩, ⟨by simp only [← wrapS (show k < 9223372036854775807 by omega)]; rfl, rfl⟩, ⟨rfl, rfl⟩, ⟨rfl, rfl⟩, ⟨rfl, rfl⟩, trivial⟩ ⟨⟨rfl, rfl, row1 rfl, nofun⟩, ⟨rfl, rfl, bd_rows freeI, nofun⟩, ⟨rfl, rfl, row1 rfl, nofun⟩, trivial⟩⟩
    · have hki : k = i := by omega
      subst hki
      -- the tasks
      refine loop_st (S := Nat) (fun t => (5, .hptr 2 10 0 0) :: (7, I t) :: frA k (L ++ incsA (s.allocs.getD k default) t)) (fun t => hpB s (L ++ incsA (s.allocs.getD k default) t) (s.allocs.getD k default)) (fun t => t ≤ (s.allocs.getD k default).tasks.length ∧ (L ++ incsA (s.allocs.getD k default) t).Nodup) (fun t => (s.allocs.getD k default).tasks.length - t) 0
        (Wk.cut rfl ⟨⟨rfl, rfl⟩, ⟨rfl, rfl⟩, ⟨rfl, rfl⟩, ⟨by simp [incsA]; rfl, rfl⟩, ⟨rfl, rfl⟩, trivial⟩ ⟨⟨rfl, rfl, row1 rfl, nofun⟩, ⟨by simp [incsA]; rfl, rfl, bd_rows freeI, nofun⟩, ⟨rfl, rfl, row1 rfl, nofun⟩, trivial⟩) ⟨Nat.zero_le _, by simpa [incsA] using hN⟩ ?_
      rintro t ⟨htk, hD⟩
      have hL2 : (L ++ incsA (s.allocs.getD k default) t).length ≤ 1001000 := by
        have := incsA_le (s.allocs.getD k default) t
        have := ht k
        rw [List.length_append]; omega
      have hnd : (incsL s.allocs).Nodup → t < (s.allocs.getD k default).tasks.length → incT (s.allocs.getD k default) t ≠ 0 → incT (s.allocs.getD k default) t ∉ L ++ incsA (s.allocs.getD k default) t := fun h1 h2 h3 => by
        have := nodup_pre h1 hi2 h2 h3
        rwa [hLe] at this
      have hnz : ∀ x ∈ L ++ incsA (s.allocs.getD k default) t, x ≠ 0 := fun x hx => by
        rcases List.mem_append.1 hx with h1 | h1
        · rw [← hLe] at h1
          unfold incsL at h1
          obtain ⟨l, h2, h3⟩ := List.mem_flatten.1 h1
          obtain ⟨a, _, rfl⟩ := List.mem_map.1 h2
          simpa using (List.mem_filter.1 h3).2
        · simpa using (List.mem_filter.1 h1).2
      have hsucc : t < (s.allocs.getD k default).tasks.length → L ++ incsA (s.allocs.getD k default) (t + 1) = (L ++ incsA (s.allocs.getD k default) t) ++ (if incT (s.allocs.getD k default) t ≠ 0 then [incT (s.allocs.getD k default) t] else []) := fun h => by rw [incsA_succ h, List.append_assoc]
      generalize hMe : L ++ incsA (s.allocs.getD k default) t = M at hD hL2 hnd hnz hsucc ⊢
      (refine goS ?_ <;> repeat (intro _ <;> refine goS ?_))
      (refine bnS (fun hr h => ?_) (fun hr h => ?_) <;> first | (exact False.elim h) | ((refine goS ?_ <;> repeat (intro _ <;> refine goS ?_))))
      · have ht2 : t < (s.allocs.getD k default).tasks.length := h
        refine loop_st (S := Nat) (fun n => (5, .hptr 2 10 0 0) :: (7, I t) :: (8, I n) :: frA k M) (fun _ => hpB s M (s.allocs.getD k default)) (fun n => n ≤ M.length ∧ ∀ m, m < n → M.getD m 0 ≠ incT (s.allocs.getD k default) t) (fun n => M.length - n) 0
          (Wk.cut rfl ⟨⟨rfl, rfl⟩, ⟨rfl, rfl⟩, ⟨rfl, rfl⟩, ⟨rfl, rfl⟩, ⟨rfl, rfl⟩, ⟨rfl, rfl⟩, trivial⟩ ⟨⟨rfl, rfl, row1 rfl, nofun⟩, ⟨rfl, rfl, bd_rows freeI, nofun⟩, ⟨rfl, rfl, row1 rfl, nofun⟩, trivial⟩) ⟨Nat.zero_le _, fun m hm => absurd hm (Nat.not_lt_zero m)⟩ ?_
        rintro n ⟨hn2, hM⟩
        (refine goS ?_ <;> repeat (intro _ <;> refine goS ?_))
        (refine bnS (fun hr h => ?_) (fun hr h => ?_) <;> first | (exact False.elim h) | ((refine goS ?_ <;> repeat (intro _ <;> refine goS ?_))))
        · have hn3 : n < M.length := h
          rw [evN_load_own (row := [I (M.getD n 0)]) (y := I (M.getD n 0))]
          rotate_left 1
          · exact rfl
          · exact rfl
          · exact rfl
          · exact rowsI_at hn3
          · exact rfl
          · exact rfl
          (refine goS ?_ <;> repeat (intro _ <;> refine goS ?_))
          (refine bnS (fun hr h => ?_) (fun hr h => ?_) <;> first | (exact False.elim h) | ((refine goS ?_ <;> repeat (intro _ <;> refine goS ?_))))
          · refine ret_now _ (by_f fun ho => ?_)
            have hmem : M.getD n 0 ∈ M := by simp [List.getD_eq_getElem?_getD, hn3]
            have he : M.getD n 0 = incT (s.allocs.getD k default) t := h
            have h0 := hnz _ hmem
            rw [he] at hmem h0
            exact hnd ho.2 ht2 h0 hmem
          · exact ⟨n + 1, by omega, ⟨by omega, fun m hm => by
              rcases Nat.lt_succ_iff_lt_or_eq.1 hm with h1 | h1
              · exact hM m h1
              · rw [h1]; exact h⟩, Wk.sub ⟨rfl, rfl, by simp only [← wrapS (show n < 9223372036854775807 by omega)]; rfl, rfl, rfl, rfl, trivial⟩⟩
        · have hnM : n = M.length := by omega
          subst hnM
          have hnot : incT (s.allocs.getD k default) t ∉ M := fun hm => by
            obtain ⟨j, hj, e⟩ := List.getElem_of_mem hm
            exact hM j hj (by simp [List.getD_eq_getElem?_getD, hj, e])
          have hs := hsucc ht2
          (refine bnS (fun hr h => ?_) (fun hr h => ?_) <;> first | (exact False.elim h) | ((refine goS ?_ <;> repeat (intro _ <;> refine goS ?_))))
          · have h0 : incT (s.allocs.getD k default) t ≠ 0 := h
            rw [if_pos h0] at hs
            have hh : 0 + M.length = (rowsI M).length ∧ oneRows [[I (incT (s.allocs.getD k default) t)]] ∧ (M.length + 1) * 8 ≤ 140737488355328 := ⟨by simp, oneRows_of rfl, by omega⟩
            refine And.intro hh ?_ <;> (refine goS ?_ <;> repeat (intro _ <;> refine goS ?_))
            exact ⟨t + 1, by omega, ⟨by omega, by rw [hs]; exact List.nodup_append.2 ⟨hD, by simp, fun x hx y hy => by rw [List.mem_singleton.1 hy]; exact fun e => hnot (e ▸ hx)⟩⟩, Wk.re (fun i => if i = 1 then 4 else i) rfl (nofun) (injL rfl) ⟨⟨rfl, rfl⟩, ⟨by simp only [← wrapS (show t < 9223372036854775807 by omega)]; rfl, rfl⟩, ⟨rfl, rfl⟩, ⟨by rw [hs, List.length_append]; rfl, rfl⟩, ⟨rfl, rfl⟩, trivial⟩
              ⟨⟨rfl, _, rfl, .inl ⟨rfl, free1 rfl⟩, nofun⟩, ⟨rfl, _, rfl, .inl ⟨by rw [hs]; simp only [rowsI, List.map_append]; rfl, freeI⟩, nofun⟩, ⟨rfl, _, rfl, .inl ⟨rfl, free1 rfl⟩, nofun⟩, trivial⟩⟩
          · have h0 : ¬ incT (s.allocs.getD k default) t ≠ 0 := fun hh => hh h
            rw [if_neg h0, List.append_nil] at hs
            exact ⟨t + 1, by omega, ⟨by omega, by rw [hs]; exact hD⟩, Wk.cut rfl ⟨⟨rfl, rfl⟩, ⟨by simp only [← wrapS (show t < 9223372036854775807 by omega)]; rfl, rfl⟩, ⟨rfl, rfl⟩, ⟨by rw [hs]; rfl, rfl⟩, ⟨rfl, rfl⟩, trivial⟩
              ⟨⟨rfl, rfl, row1 rfl, nofun⟩, ⟨by rw [hs]; rfl, rfl, bd_rows freeI, nofun⟩, ⟨rfl, rfl, row1 rfl, nofun⟩, trivial⟩⟩
      · have htt : t = (s.allocs.getD k default).tasks.length := by omega
        subst htt
        have hs : incsL (s.allocs.take (k + 1)) = M := by rw [takeS hi2, incsL_snoc, hLe, hMe]
        exact ⟨k + 1, by omega, ⟨by omega, fun m hm q hq => by
            rcases Nat.lt_succ_iff_lt_or_eq.1 hm with h1 | h1
            · exact hP m h1 q hq
            · subst h1; exact hQ q hq, by rw [hs]; exact hD⟩, Wk.cut rfl ⟨⟨rfl, rfl⟩, ⟨by rw [hs]; rfl, rfl⟩, ⟨by simp only [← wrapS (show k < 9223372036854775807 by omega)]; rfl, rfl⟩, trivial⟩
          ⟨⟨by rw [hs]; rfl, rfl, bd_rows freeI, nofun⟩, ⟨rfl, rfl, row1 rfl, nofun⟩, trivial⟩⟩
  · have hil : i = s.allocs.length := by omega
    subst hil
    rw [List.take_length] at hLe
    exact ret_now _ (by_t ⟨hP, by rw [hLe]; exact hN⟩)
def stOk (c : Config) (s : State) : Prop := inR s.epoch 0 1099511627776 ∧ inR s.next 1 1099511627776 ∧ inR s.lives 1 1099511627776 ∧ inR s.ack (-1) 1099511627776 ∧ (s.allocs.length : Int) ≤ c.allocs ∧ apartOk s ∧ (∀ i, i < s.allocs.length → allocOk c s (s.allocs.getD i default)) ∧ roomB c (usedR s.allocs) = true ∧ pdisB (usedP s.allocs) = true
open Classical in
noncomputable def stE (c : Config) (s : State) : Int := if ¬ c.ok then 3 else if stOk c s then 0 else 2
theorem stE_c {c : Config} {s : State} (h : ¬ c.ok) : stE c s = 3 := if_pos h
theorem stE_y {c : Config} {s : State} (h : c.ok) (h2 : stOk c s) : stE c s = 0 := by unfold stE; rw [if_neg (not_not_intro h), if_pos h2]
theorem stE_n {c : Config} {s : State} (h : c.ok) (h2 : ¬ stOk c s) : stE c s = 2 := by unfold stE; rw [if_neg (not_not_intro h), if_neg h2]
/-- The tasks' states are no less than 0, as bytes are. -/
def State.wfS (s : State) : Prop := ∀ i j, 0 ≤ ((s.allocs.getD i default).tasks.getD j default).state
theorem few_ports {s : State} (hf : s.few) (i : Nat) : ((usedP s.allocs).getD i []).length ≤ 1000 := by
  by_cases h : i < (usedP s.allocs).length
  · have hm : (usedP s.allocs).getD i [] ∈ usedP s.allocs := by simp [List.getD_eq_getElem?_getD, h]
    unfold usedP live at hm
    obtain ⟨a, ha, e⟩ := List.mem_map.1 hm
    obtain ⟨j, hj, e2⟩ := List.getElem_of_mem (List.mem_filter.1 ha).1
    have := (hf.2 j).2.2.1
    have e' : a.spec.ports = (usedP s.allocs).getD i [] := e
    rw [← e']
    have e3 : s.allocs.getD j default = a := by simp [List.getD_eq_getElem?_getD, hj, e2]
    rw [e3] at this; omega
  · rw [List.getD_eq_getElem?_getD, List.getElem?_eq_none (by omega)]; simp
open Classical in
set_option maxHeartbeats 4000000 in
theorem refCheck_p (c : Config) (s : State) (hf : s.few) (hw : s.wfS) : Pure Tryz.prog 36 [c.av, s.av] (I (stE c s)) := by
  have hn := hf.1
  have hA := refApart_p s (by omega) (fun i => by have := (hf.2 i).1; omega)
  have hU := used_p s (by omega)
  have hF := refFits_p c (usedR s.allocs) (usedP s.allocs) (few_ports hf)
  by_cases hc : c.ok
  case neg =>
    rw [stE_c hc]
    refine Pure.ev Tryz.f36 mx Tryz.func36 (by kernel_rfl) rfl rfl rfl ?_ <;> (refine goS ?_ <;> repeat (intro _ <;> refine goS ?_))
    (first | refine Pure.call (config13_p c) ?_ | refine HCall.pure (config13_p c) ?_) <;> (refine goS ?_ <;> repeat (intro _ <;> refine goS ?_))
    rw [eUn_n hc]
    (refine goS ?_ <;> repeat (intro _ <;> refine goS ?_))
    exact ret_now _ rfl
  refine Pure.ev Tryz.f36 mx Tryz.func36 (by kernel_rfl) rfl rfl rfl ?_ <;> (refine goS ?_ <;> repeat (intro _ <;> refine goS ?_))
  (first | refine Pure.call (config13_p c) ?_ | refine HCall.pure (config13_p c) ?_) <;> (refine goS ?_ <;> repeat (intro _ <;> refine goS ?_))
  rw [eUn_y hc]
  (refine goS ?_ <;> repeat (intro _ <;> refine goS ?_))
  repeat' (first
    | ((refine bnS (fun hr h => ?_) (fun hr h => ?_) <;> first | (exact False.elim h) | ((refine goS ?_ <;> repeat (intro _ <;> refine goS ?_)))))
    | ((first | refine Pure.call (hA) ?_ | refine HCall.pure (hA) ?_) <;> (refine goS ?_ <;> repeat (intro _ <;> refine goS ?_))))
  all_goals first
    | exact ret_now _ (by rw [stE_n hc fun ho => by obtain ⟨h1, h2, h3, h4, h5, h6, h7⟩ := ho; unfold inR at *; first | omega | exact absurd h6 h])
    | skip
  have hap : apartOk s := by assumption
  refine loop_st (S := Nat) (fun k => [(2, .hptr 0 11 0 0), (3, .hptr 1 5 0 0), (6, I k)]) (fun _ => ⟨2, [(1, some ⟨5, [s.fv.map FV.up], none⟩), (0, some ⟨11, [c.fv.map FV.up], none⟩)]⟩)
    (fun k => k ≤ s.allocs.length ∧ ∀ j, j < k → allocOk c s (s.allocs.getD j default)) (fun k => s.allocs.length - k) 0
    (Wk.cut rfl ⟨⟨rfl, rfl⟩, ⟨rfl, rfl⟩, ⟨rfl, rfl⟩, trivial⟩ ⟨⟨rfl, rfl, row1 rfl, nofun⟩, ⟨rfl, rfl, row1 rfl, nofun⟩, trivial⟩) ⟨Nat.zero_le _, fun j hj => absurd hj (Nat.not_lt_zero j)⟩ ?_
  rintro k ⟨hk, hT⟩
  have hall : (∀ j, j < s.allocs.length → allocOk c s (s.allocs.getD j default)) → roomB c (usedR s.allocs) = true → pdisB (usedP s.allocs) = true → stOk c s := fun h1 h2 h3 => by
    refine ⟨?_, ?_, ?_, ?_, by omega, hap, h1, h2, h3⟩ <;> (unfold inR; omega)
  clear hap
  (refine goS ?_ <;> repeat (intro _ <;> refine goS ?_))
  (refine bnS (fun hr h => ?_) (fun hr h => ?_) <;> first | (exact False.elim h) | ((refine goS ?_ <;> repeat (intro _ <;> refine goS ?_))))
  · have hk2 : k < s.allocs.length := h
    (first | refine Pure.call (refAlloc_p c s (s.allocs.getD k default) (hw k)) ?_ | refine HCall.pure (refAlloc_p c s (s.allocs.getD k default) (hw k)) ?_) <;> (refine goS ?_ <;> repeat (intro _ <;> refine goS ?_))
    (refine bnS (fun hr h => ?_) (fun hr h => ?_) <;> first | (exact False.elim h) | ((refine goS ?_ <;> repeat (intro _ <;> refine goS ?_))))
    · exact ret_now _ (by rw [stE_n hc fun ho => h (ho.2.2.2.2.2.2.1 k hk2)])
    · exact ⟨k + 1, by omega, ⟨by omega, fun j hj => by
        rcases Nat.lt_succ_iff_lt_or_eq.1 hj with h1 | h1
        · exact hT j h1
        · rw [h1]; exact h⟩, Wk.sub ⟨rfl, rfl, by simp only [← wrapS (show k < 9223372036854775807 by omega)]; rfl, trivial⟩⟩
  · (first | refine Pure.call (hU) ?_ | refine HCall.pure (hU) ?_) <;> (refine goS ?_ <;> repeat (intro _ <;> refine goS ?_))
    (first | refine Pure.call (hF) ?_ | refine HCall.pure (hF) ?_) <;> (refine goS ?_ <;> repeat (intro _ <;> refine goS ?_))
    cases h1 : roomB c (usedR s.allocs)
    · rw [Bool.false_and]
      (refine goS ?_ <;> repeat (intro _ <;> refine goS ?_))
      exact ret_now _ (by rw [stE_n hc fun ho => by have := ho.2.2.2.2.2.2.2.1; rw [h1] at this; cases this])
    · cases h2 : pdisB (usedP s.allocs)
      · (refine goS ?_ <;> repeat (intro _ <;> refine goS ?_))
        exact ret_now _ (by rw [stE_n hc fun ho => by have := ho.2.2.2.2.2.2.2.2; rw [h2] at this; cases this])
      · (refine goS ?_ <;> repeat (intro _ <;> refine goS ?_))
        exact ret_now _ (by rw [stE_y hc (hall (fun j hj => hT j (by omega)) h1 h2)])
theorem mem_incsA {a : Alloc} {x : Int} : ∀ {k : Nat}, k ≤ a.tasks.length → (x ∈ incsA a k ↔ x ≠ 0 ∧ ∃ t, t < k ∧ incT a t = x)
  | 0, _ => by simp [incsA]
  | k + 1, h => by
    rw [incsA_succ (by omega), List.mem_append, mem_incsA (k := k) (by omega)]
    constructor
    · rintro (⟨h1, t, h2, h3⟩ | h1)
      · exact ⟨h1, t, by omega, h3⟩
      · by_cases c : incT a k ≠ 0
        · rw [if_pos c, List.mem_singleton] at h1; exact ⟨h1 ▸ c, k, by omega, h1.symm⟩
        · rw [if_neg c] at h1; cases h1
    · rintro ⟨h1, t, h2, h3⟩
      rcases Nat.lt_succ_iff_lt_or_eq.1 h2 with h4 | h4
      · exact .inl ⟨h1, t, h4, h3⟩
      · subst h4; subst h3; right; rw [if_pos h1]; simp
theorem mem_incsL {l : List Alloc} {x : Int} : x ∈ incsL l ↔ x ≠ 0 ∧ ∃ i, i < l.length ∧ ∃ t, t < (l.getD i default).tasks.length ∧ incT (l.getD i default) t = x := by
  unfold incsL
  rw [List.mem_flatten]
  constructor
  · rintro ⟨m, hm, hx⟩
    obtain ⟨a, ha, rfl⟩ := List.mem_map.1 hm
    obtain ⟨i, hi, rfl⟩ := List.getElem_of_mem ha
    have e : l.getD i default = l[i] := by simp [List.getD_eq_getElem?_getD, hi]
    obtain ⟨h1, t, h2, h3⟩ := (mem_incsA (Nat.le_refl _)).1 hx
    exact ⟨h1, i, hi, t, by rw [e]; exact h2, by rw [e]; exact h3⟩
  · rintro ⟨h1, i, hi, t, h2, h3⟩
    have e : l.getD i default = l[i] := by simp [List.getD_eq_getElem?_getD, hi]
    rw [e] at h2 h3
    exact ⟨_, List.mem_map.2 ⟨l[i], List.getElem_mem hi, rfl⟩, (mem_incsA (Nat.le_refl _)).2 ⟨h1, t, h2, h3⟩⟩
def seenI (s : State) (k : Nat) (q : Int → Bool) : Prop := ∀ z, q z = true ↔ ∃ i, i < k ∧ ∃ t, t < (s.allocs.getD i default).tasks.length ∧ incT (s.allocs.getD i default) t = z
def seenF (s : State) (f : Alloc → Int) (k : Nat) (q : Int → Bool) : Prop := ∀ z, q z = true ↔ ∃ i, i < k ∧ f (s.allocs.getD i default) = z
theorem seenF_succ {s : State} {f : Alloc → Int} {k : Nat} {q : Int → Bool} (h : seenF s f k q) : seenF s f (k + 1) (fun z => bif decide (z = f (s.allocs.getD k default)) then true else q z) := fun z => by
  by_cases c : z = f (s.allocs.getD k default)
  · simp only [c, decide_true, cond_true, true_iff]
    exact ⟨k, by omega, rfl⟩
  · simp only [c, decide_false, cond_false, h z]
    constructor
    · rintro ⟨i, hi, e⟩; exact ⟨i, by omega, e⟩
    · rintro ⟨i, hi, e⟩
      rcases Nat.lt_succ_iff_lt_or_eq.1 hi with h1 | h1
      · exact ⟨i, h1, e⟩
      · rw [h1] at e; exact absurd e.symm c
theorem seenI_succ {s : State} {k : Nat} {q q2 : Int → Bool} (h : seenI s k q) (h2 : incMap (s.allocs.getD k default) q (s.allocs.getD k default).tasks.length q2) : seenI s (k + 1) q2 := fun z => by
  rw [h2 z, h z]
  constructor
  · rintro (⟨i, hi, e⟩ | ⟨t, ht, e⟩)
    · exact ⟨i, by omega, e⟩
    · exact ⟨k, by omega, t, ht, e⟩
  · rintro ⟨i, hi, t, ht, e⟩
    rcases Nat.lt_succ_iff_lt_or_eq.1 hi with h1 | h1
    · exact .inl ⟨i, h1, t, ht, e⟩
    · rw [h1] at ht e; exact .inr ⟨t, ht, e⟩
theorem incs_in {s : State} {k : Nat} (hk : k ≤ s.allocs.length) {x : Int} : x ∈ incsL (s.allocs.take k) ↔ x ≠ 0 ∧ ∃ i, i < k ∧ ∃ t, t < (s.allocs.getD i default).tasks.length ∧ incT (s.allocs.getD i default) t = x := by
  rw [mem_incsL]
  have e : ∀ i, i < k → (s.allocs.take k).getD i default = s.allocs.getD i default := fun i hi => by simp [List.getD_eq_getElem?_getD, List.getElem?_take, hi]
  have el : (s.allocs.take k).length = k := by simp; omega
  constructor
  · rintro ⟨h1, i, hi, t, h2, h3⟩
    rw [el] at hi
    rw [e i hi] at h2 h3
    exact ⟨h1, i, hi, t, h2, h3⟩
  · rintro ⟨h1, i, hi, t, h2, h3⟩
    exact ⟨h1, i, by omega, t, by rw [e i hi]; exact h2, by rw [e i hi]; exact h3⟩
/-- What the program looks at of the tasks, out of what the document says. -/
theorem tks_of {c : Config} {s : State} {k : Nat} {q : Int → Bool} (hk : k < s.allocs.length) (hq : seenI s k q) (ho : stOk c s) : tksOk (s.allocs.getD k default) s.next q := by
  obtain ⟨_, _, _, _, _, hap, hal, _⟩ := ho
  obtain ⟨_, _, _, _, _, h6, h7⟩ := hal k hk
  refine ⟨h6, fun j hj => ⟨h7 j hj, fun h0 => ?_⟩⟩
  have hn := nodup_pre hap.2 hk hj h0
  rw [List.mem_append, not_or] at hn
  refine ⟨?_, fun i hi e => hn.2 ((mem_incsA (by omega)).2 ⟨h0, i, hi, e⟩)⟩
  cases hb : q (incT (s.allocs.getD k default) j)
  · rfl
  · exact absurd ((incs_in (by omega)).2 ⟨h0, (hq _).1 hb⟩) hn.1
theorem nodupA {a : Alloc} {next : Int} {q : Int → Bool} (h : tksTo a next q a.tasks.length) : ∀ k, k ≤ a.tasks.length → (incsA a k).Nodup
  | 0, _ => by simp [incsA]
  | k + 1, hk => by
    rw [incsA_succ (by omega)]
    by_cases c : incT a k ≠ 0
    · rw [if_pos c]
      refine List.nodup_append.2 ⟨nodupA h k (by omega), by simp, fun x hx y hy e => ?_⟩
      rw [List.mem_singleton.1 hy] at e
      obtain ⟨_, t, ht, e2⟩ := (mem_incsA (by omega)).1 hx
      exact ((h k (by omega)).2 c).2 t ht (e2.trans e)
    · rw [if_neg c, List.append_nil]; exact nodupA h k (by omega)
/-- How far the program has come. -/
structure StI (c : Config) (s : State) (k : Nat) (p1 p2 p3 : Int → Bool) : Prop where
  le : k ≤ s.allocs.length
  al : ∀ j, j < k → allocOk c s (s.allocs.getD j default)
  pr : ∀ m, m < k → ∀ j, j < m → pairOk s m j
  nd : (incsL (s.allocs.take k)).Nodup
  q1 : seenF s Alloc.life k p1
  q2 : seenF s Alloc.slot k p2
  q3 : seenI s k p3
theorem StI.zero {c : Config} {s : State} : StI c s 0 (fun _ => false) (fun _ => false) (fun _ => false) :=
  ⟨Nat.zero_le _, fun j hj => absurd hj (Nat.not_lt_zero j), fun j hj => absurd hj (Nat.not_lt_zero j), List.nodup_nil, fun z => by simp, fun z => by simp, fun z => by simp⟩
theorem StI.next {c : Config} {s : State} {k : Nat} {p1 p2 p3 p4 : Int → Bool} (h : StI c s k p1 p2 p3) (hk : k < s.allocs.length) (h0 : 0 < k → (s.allocs.getD (k - 1) default).spec.id < (s.allocs.getD k default).spec.id)
    (h1 : specE (s.allocs.getD k default).spec = 0) (h2 : 1 ≤ (s.allocs.getD k default).life ∧ (s.allocs.getD k default).life < s.lives) (h3 : 0 ≤ (s.allocs.getD k default).slot ∧ (s.allocs.getD k default).slot < c.allocs)
    (h4 : p1 (s.allocs.getD k default).life = false) (h5 : p2 (s.allocs.getD k default).slot = false) (h6 : tksOk (s.allocs.getD k default) s.next p3) (h7 : incMap (s.allocs.getD k default) p3 (s.allocs.getD k default).tasks.length p4) :
    StI c s (k + 1) (fun z => bif decide (z = (s.allocs.getD k default).life) then true else p1 z) (fun z => bif decide (z = (s.allocs.getD k default).slot) then true else p2 z) p4 := by
  refine ⟨by omega, fun j hj => ?_, fun m hm j hj => ?_, ?_, seenF_succ h.q1, seenF_succ h.q2, seenI_succ h.q3 h7⟩
  · rcases Nat.lt_succ_iff_lt_or_eq.1 hj with e | e
    · exact h.al j e
    · rw [e]; exact ⟨h1, h2.1, h2.2, h3.1, h3.2, h6.1, fun t ht => (h6.2 t ht).1⟩
  · rcases Nat.lt_succ_iff_lt_or_eq.1 hm with e | e
    · exact h.pr m e j hj
    · subst e
      refine ⟨fun e => ?_, fun e => ?_, ?_⟩
      · rw [(h.q1 _).2 ⟨j, hj, e⟩] at h4; cases h4
      · rw [(h.q2 _).2 ⟨j, hj, e⟩] at h5; cases h5
      · have hl := h0 (by omega)
        rcases Nat.lt_or_ge j (m - 1) with e | e
        · have := (h.pr (m - 1) (by omega) j e).2.2; omega
        · obtain rfl : j = m - 1 := by omega
          exact hl
  · rw [takeS hk, incsL_snoc]
    refine List.nodup_append.2 ⟨h.nd, nodupA h6.2 _ (Nat.le_refl _), fun x hx y hy e => ?_⟩
    subst e
    obtain ⟨hx0, hx1⟩ := (incs_in (by omega)).1 hx
    obtain ⟨_, t, ht, e2⟩ := (mem_incsA (Nat.le_refl _)).1 hy
    have hb := (h.q3 x).2 hx1
    have := ((h6.2 t ht).2 (by rw [e2]; exact hx0)).1
    rw [e2, hb] at this; cases this
theorem specE_ports {s : Spec} (h : specE s = 0) : checkF s.ports = 0 := by
  refine Classical.byContradiction fun c => ?_
  unfold specE at h
  by_cases c1 : inR s.id 0 2147483648
  · by_cases c2 : s.res.ok
    · rw [if_neg (not_not_intro c1), if_neg (not_not_intro c2), if_pos c] at h
      exact c h
    · rw [if_neg (not_not_intro c1), if_pos c2] at h; cases h
  · rw [if_pos c1] at h; cases h
theorem chk_in : ∀ (l : List Int) (b : Int), chk b l = 0 → ∀ x ∈ l, 1 ≤ x ∧ x ≤ 65535
  | [], _, _, x, hx => by cases hx
  | p :: l, b, h, x, hx => by
    rw [chk_cons] at h
    by_cases c1 : p < 1 ∨ 65535 < p
    · rw [if_pos c1] at h; cases h
    · rw [if_neg c1] at h
      by_cases c2 : p ≤ b
      · rw [if_pos c2] at h; cases h
      · rw [if_neg c2] at h
        rcases List.mem_cons.1 hx with rfl | hx
        · omega
        · exact chk_in l p h x hx
theorem chk_mem {l : List Int} (h : checkF l = 0) : ∀ x ∈ l, 1 ≤ x ∧ x ≤ 65535 := by
  unfold checkF at h
  by_cases c : 8 < l.length
  · rw [if_pos c] at h; cases h
  · rw [if_neg c] at h; exact chk_in l 0 h
open Classical in
set_option maxHeartbeats 8000000 in
theorem stCheck_p (c : Config) (s : State) (hf : s.few) (hw : s.wfS) : Pure Tryz.prog 31 [c.av, s.av] (I (stE c s)) := by
  have hn := hf.1
  by_cases hc : c.ok
  case neg =>
    rw [stE_c hc]
    refine Pure.ev Tryz.f31 mx Tryz.func31 (by kernel_rfl) rfl rfl rfl ?_ <;> (refine goS ?_ <;> repeat (intro _ <;> refine goS ?_))
    (first | refine Pure.call (config_p c) ?_ | refine HCall.pure (config_p c) ?_) <;> (refine goS ?_ <;> repeat (intro _ <;> refine goS ?_))
    rw [eUn_n hc]
    (refine goS ?_ <;> repeat (intro _ <;> refine goS ?_))
    exact ret_now _ rfl
  refine Pure.ev Tryz.f31 mx Tryz.func31 (by kernel_rfl) rfl rfl rfl ?_ <;> (refine goS ?_ <;> repeat (intro _ <;> refine goS ?_))
  (first | refine Pure.call (config_p c) ?_ | refine HCall.pure (config_p c) ?_) <;> (refine goS ?_ <;> repeat (intro _ <;> refine goS ?_))
  rw [eUn_y hc]
  (refine goS ?_ <;> repeat (intro _ <;> refine goS ?_))
  repeat' (first
    | ((refine bnS (fun hr h => ?_) (fun hr h => ?_) <;> first | (exact False.elim h) | ((refine goS ?_ <;> repeat (intro _ <;> refine goS ?_)))))
    | ((first | refine Pure.call (from20_p _ _ _) ?_ | refine HCall.pure (from20_p _ _ _) ?_) <;> (refine goS ?_ <;> repeat (intro _ <;> refine goS ?_))))
  all_goals first
    | exact ret_now _ (by rw [stE_n hc fun ho => by obtain ⟨h1, h2, h3, h4, h5, h6, h7⟩ := ho; unfold inR at *; first | omega | contradiction])
    | skip
  have b1 : inR s.epoch 0 1099511627776 := by assumption
  have b2 : inR s.next 1 1099511627776 := by assumption
  have b3 : inR s.lives 1 1099511627776 := by assumption
  have b4 : inR s.ack (-1) 1099511627776 := by assumption
  have b5 : (s.allocs.length : Int) ≤ c.allocs := by assumption
  have el : IntKind.i64.wrap (s.lives - 1) = s.lives - 1 := wrap_id (by unfold inR at b3; omega) (by unfold inR at b3; omega)
  have ec : IntKind.i64.wrap (c.allocs - 1) = c.allocs - 1 := wrap_id (by have := hc.2.1; unfold inR at this; omega) (by have := hc.2.1; unfold inR at this; omega)
  refine loop_st (S := Nat × (Int → Bool) × (Int → Bool) × (Int → Bool)) (fun z => [(2, .hptr 0 11 0 0), (3, .hptr 1 5 0 0), (6, .mp 2), (7, .mp 3), (8, .mp 4), (50, .sl 10 s.allocs.length fun i => Alloc.fv (s.allocs.getD i default)), (51, I s.allocs.length), (52, I z.1)])
    (fun z => ⟨5, [(4, some (mapB z.2.2.2)), (3, some (mapB z.2.2.1)), (2, some (mapB z.2.1)), (1, some ⟨5, [s.fv.map FV.up], none⟩), (0, some ⟨11, [c.fv.map FV.up], none⟩)]⟩)
    (fun z => StI c s z.1 z.2.1 z.2.2.1 z.2.2.2) (fun z => s.allocs.length - z.1) (0, (fun _ => false), (fun _ => false), (fun _ => false))
    (Wk.cut rfl ⟨⟨rfl, rfl⟩, ⟨rfl, rfl⟩, ⟨rfl, rfl⟩, ⟨rfl, rfl⟩, ⟨rfl, rfl⟩, ⟨rfl, rfl⟩, ⟨rfl, rfl⟩, ⟨rfl, rfl⟩, trivial⟩ ⟨⟨rfl, rfl, nofun, nofun⟩, ⟨rfl, rfl, nofun, nofun⟩, ⟨rfl, rfl, nofun, nofun⟩, ⟨rfl, rfl, row1 rfl, nofun⟩, ⟨rfl, rfl, row1 rfl, nofun⟩, trivial⟩) StI.zero ?_
  rintro ⟨k, p1, p2, p3⟩ hI
  dsimp only at hI
  have hk := hI.le
  (refine goS ?_ <;> repeat (intro _ <;> refine goS ?_))
  (refine bnS (fun hr h => ?_) (fun hr h => ?_) <;> first | (exact False.elim h) | ((refine goS ?_ <;> repeat (intro _ <;> refine goS ?_))))
  · have hk2 : k < s.allocs.length := h
    have n1 : 0 < k → ¬ (s.allocs.getD (k - 1) default).spec.id < (s.allocs.getD k default).spec.id → ¬ stOk c s := fun h0 h1 ho => h1 (ho.2.2.2.2.2.1.1 k hk2 (k - 1) (by omega)).2.2
    have n2 : ¬ specE (s.allocs.getD k default).spec = 0 → ¬ stOk c s := fun h1 ho => h1 (ho.2.2.2.2.2.2.1 k hk2).1
    have n3 : ¬ inR (s.allocs.getD k default).life 1 (IntKind.i64.wrap (s.lives - 1)) → ¬ stOk c s := fun h1 ho => h1 (by have := ho.2.2.2.2.2.2.1 k hk2; rw [el]; unfold inR; exact ⟨this.2.1, by have := this.2.2.1; omega⟩)
    have n4 : ¬ inR (s.allocs.getD k default).slot 0 (IntKind.i64.wrap (c.allocs - 1)) → ¬ stOk c s := fun h1 ho => h1 (by have := ho.2.2.2.2.2.2.1 k hk2; rw [ec]; unfold inR; exact ⟨this.2.2.2.1, by have := this.2.2.2.2.1; omega⟩)
    have n5 : p1 (s.allocs.getD k default).life = true → ¬ stOk c s := fun h1 ho => by
      obtain ⟨i, hi, e⟩ := (hI.q1 _).1 h1
      exact (ho.2.2.2.2.2.1.1 k hk2 i hi).1 e
    have n6 : p2 (s.allocs.getD k default).slot = true → ¬ stOk c s := fun h1 ho => by
      obtain ⟨i, hi, e⟩ := (hI.q2 _).1 h1
      exact (ho.2.2.2.2.2.1.1 k hk2 i hi).2.1 e
    have n7 : ¬ tksOk (s.allocs.getD k default) s.next p3 → ¬ stOk c s := fun h1 ho => h1 (tks_of hk2 hI.q3 ho)
    have g3 : inR (s.allocs.getD k default).life 1 (IntKind.i64.wrap (s.lives - 1)) → 1 ≤ (s.allocs.getD k default).life ∧ (s.allocs.getD k default).life < s.lives := fun h => by rw [el] at h; unfold inR at h; omega
    have g4 : inR (s.allocs.getD k default).slot 0 (IntKind.i64.wrap (c.allocs - 1)) → 0 ≤ (s.allocs.getD k default).slot ∧ (s.allocs.getD k default).slot < c.allocs := fun h => by rw [ec] at h; unfold inR at h; omega
    have hT := tasks_a (s.allocs.getD k default) s.next p3 (hw k)
    clear b1 b2 b3 b4 b5 el ec
    repeat' (first
      | ((refine bnS (fun hr h => ?_) (fun hr h => ?_) <;> first | (exact False.elim h) | ((refine goS ?_ <;> repeat (intro _ <;> refine goS ?_)))))
      | (rw [wrapP (n := k) (by omega) (by omega)] <;> (refine goS ?_ <;> repeat (intro _ <;> refine goS ?_)))
      | ((first | refine Pure.call (specCheck_p _) ?_ | refine HCall.pure (specCheck_p _) ?_) <;> (refine goS ?_ <;> repeat (intro _ <;> refine goS ?_)))
      | ((first | refine Pure.call (from20_p _ _ _) ?_ | refine HCall.pure (from20_p _ _ _) ?_) <;> (refine goS ?_ <;> repeat (intro _ <;> refine goS ?_))))
    all_goals (try simp only [toNat_nat] at *)
    all_goals first
      | exact ret_now _ (by rw [stE_n hc (n1 (by omega) (by omega))])
      | exact ret_now _ (by rw [stE_n hc (n2 h)])
      | exact ret_now _ (by rw [stE_n hc (n3 h)])
      | exact ret_now _ (by rw [stE_n hc (n4 h)])
      | exact ret_now _ (by rw [stE_n hc (n5 h)])
      | exact ret_now _ (by rw [stE_n hc (n6 h)])
      | exact ret_now _ (by rw [stE_n hc (n7 h)])
      | skip
    all_goals (refine ACalls.frame [4] hT rfl rfl (by simp) rfl rfl ⟨⟨rfl, _, rfl, .inl ⟨rfl, nofun⟩, nofun⟩, trivial⟩ ?_)
    all_goals (rintro x H' hle ⟨q, rfl, rfl, hq⟩)
    all_goals (refine ⟨rfl, [(4, some (mapB q))], ⟨⟨rfl, rfl, .inl ⟨rfl, nofun⟩, .inl ⟨rfl, nofun⟩⟩, trivial⟩, ?_⟩)
    all_goals (refine goS ?_ <;> repeat (intro _ <;> refine goS ?_))
    all_goals ((refine bnS (fun hr h => ?_) (fun hr h => ?_) <;> first | (exact False.elim h) | ((refine goS ?_ <;> repeat (intro _ <;> refine goS ?_)))))
    all_goals first
      | exact ret_now _ (by rw [stE_n hc (n7 h)])
      | exact ⟨(k + 1, _, _, q), by dsimp only; omega, hI.next hk2 (fun h0 => by omega) (by assumption) (g3 (by assumption)) (g4 (by assumption)) (by assumption) (by assumption) h (hq h), Wk.cut rfl ⟨⟨rfl, rfl⟩, ⟨rfl, rfl⟩, ⟨rfl, rfl⟩, ⟨rfl, rfl⟩, ⟨rfl, rfl⟩, ⟨rfl, rfl⟩, ⟨rfl, rfl⟩, ⟨by simp only [← wrapS (show k < 9223372036854775807 by omega)]; rfl, rfl⟩, trivial⟩
          ⟨⟨rfl, rfl, nofun, nofun⟩, ⟨rfl, rfl, nofun, nofun⟩, ⟨rfl, rfl, nofun, nofun⟩, ⟨rfl, rfl, row1 rfl, nofun⟩, ⟨rfl, rfl, row1 rfl, nofun⟩, trivial⟩⟩
  · have hkl : k = s.allocs.length := by omega
    subst hkl
    have hap : apartOk s := ⟨hI.pr, by have := hI.nd; rwa [List.take_length] at this⟩
    have hR : roomB c (⟨0, 0, 0⟩ :: usedR s.allocs) = roomB c (usedR s.allocs) := by
      unfold roomB
      rw [sumR_cons, if_pos ⟨res0_ok, res0_ok⟩]; rfl
    have hrm := room_p c s ⟨0, 0, 0⟩ (by omega)
    have hpo : ∀ i, i < s.allocs.length → checkF (s.allocs.getD i default).spec.ports = 0 := fun i hi => specE_ports (hI.al i hi).1
    have hax := apart_p s (by omega) (fun i hi => by have := (hf.2 i).2.2.1; omega) (fun i hi x hx => wf_int (by have := chk_mem (hpo i hi) x hx; omega))
    rw [hR] at hrm
    (first | refine Pure.call (hrm) ?_ | refine HCall.pure (hrm) ?_) <;> (refine goS ?_ <;> repeat (intro _ <;> refine goS ?_))
    cases h1 : roomB c (usedR s.allocs)
    · (refine goS ?_ <;> repeat (intro _ <;> refine goS ?_))
      exact ret_now _ (by rw [stE_n hc fun ho => by have := ho.2.2.2.2.2.2.2.1; rw [h1] at this; cases this])
    · (refine goS ?_ <;> repeat (intro _ <;> refine goS ?_))
      (first | refine Pure.call (hax) ?_ | refine HCall.pure (hax) ?_) <;> (refine goS ?_ <;> repeat (intro _ <;> refine goS ?_))
      cases h2 : pdisB (usedP s.allocs)
      · (refine goS ?_ <;> repeat (intro _ <;> refine goS ?_))
        exact ret_now _ (by rw [stE_n hc fun ho => by have := ho.2.2.2.2.2.2.2.2; rw [h2] at this; cases this])
      · (refine goS ?_ <;> repeat (intro _ <;> refine goS ?_))
        exact ret_now _ (by rw [stE_y hc ⟨b1, b2, b3, b4, b5, hap, hI.al, h1, h2⟩])
def findG : List Alloc → Int → Nat → Int
  | [], _, _ => -1
  | a :: l, id, k => if a.spec.id = id then k else findG l id (k + 1)
theorem findG_cons (a : Alloc) (l : List Alloc) (id : Int) (k : Nat) : findG (a :: l) id k = if a.spec.id = id then (k : Int) else findG l id (k + 1) := rfl
theorem find_p (s : State) (id : Int) : Pure Tryz.prog 14 [s.av, I id] (I (findG s.allocs id 0)) := by
  refine Pure.ev Tryz.f14 mx Tryz.func14 (by kernel_rfl) rfl rfl rfl ?_ <;> (refine goS ?_ <;> repeat (intro _ <;> refine goS ?_))
  refine ACalls.ev Tryz.f50 mx Tryz.func50 (by kernel_rfl) rfl ?_ <;> (refine goS ?_ <;> repeat (intro _ <;> refine goS ?_))
  refine loop_st (S := Nat) (fun k => [(0, .sl 10 s.allocs.length fun i => Alloc.fv (s.allocs.getD i default)), (1, .fn (.func 51) [] [.hptr 1 1 0 0]), (6, .sl 10 s.allocs.length fun i => Alloc.fv (s.allocs.getD i default)), (7, I s.allocs.length), (8, I k)])
    (fun _ => ⟨2, [(1, some ⟨1, [[I id]], none⟩)]⟩) (fun k => k ≤ s.allocs.length ∧ findG s.allocs id 0 = findG (s.allocs.drop k) id k) (fun k => s.allocs.length - k) 0
    (Wk.cut rfl ⟨⟨rfl, rfl⟩, ⟨rfl, rfl⟩, ⟨rfl, rfl⟩, ⟨rfl, rfl⟩, ⟨rfl, rfl⟩, trivial⟩ ⟨⟨rfl, rfl, row1 rfl, nofun⟩, trivial⟩) ⟨Nat.zero_le _, rfl⟩ ?_
  rintro k ⟨hk, hI⟩
  (refine goS ?_ <;> repeat (intro _ <;> refine goS ?_))
  (refine bnS (fun hr h => ?_) (fun hr h => ?_) <;> first | (exact False.elim h) | ((refine goS ?_ <;> repeat (intro _ <;> refine goS ?_))))
  · have hk2 : k < s.allocs.length := h
    rw [dropAtD hk2, findG_cons] at hI
    refine ACalls.ev Tryz.f51 mx Tryz.func51 (by kernel_rfl) rfl ?_ <;> (refine goS ?_ <;> repeat (intro _ <;> refine goS ?_))
    refine ret_now _ ?_ <;> (refine goS ?_ <;> repeat (intro _ <;> refine goS ?_))
    (refine bnS (fun hr h => ?_) (fun hr h => ?_) <;> first | (exact False.elim h) | ((refine goS ?_ <;> repeat (intro _ <;> refine goS ?_))))
    · rw [if_pos (by simpa using h)] at hI
      refine ret_now _ ?_ <;> (refine goS ?_ <;> repeat (intro _ <;> refine goS ?_))
      exact ret_now _ (by rw [hI])
    · rw [if_neg (by simpa using h)] at hI
      exact ⟨k + 1, by omega, ⟨by omega, hI⟩, Wk.cut rfl ⟨⟨rfl, rfl⟩, ⟨rfl, rfl⟩, ⟨rfl, rfl⟩, ⟨rfl, rfl⟩, ⟨by simp only [← wrapS (show k < 9223372036854775807 by omega)]; rfl, rfl⟩, trivial⟩ ⟨⟨rfl, rfl, row1 rfl, nofun⟩, trivial⟩⟩
  · rw [List.drop_of_length_le (by omega)] at hI
    refine ret_now _ ?_ <;> (refine goS ?_ <;> repeat (intro _ <;> refine goS ?_))
    exact ret_now _ (by rw [hI]; rfl)
theorem findG_spec {s : State} {id : Int} : ∀ (k : Nat), k ≤ s.allocs.length → (∃ i : Nat, k ≤ i ∧ i < s.allocs.length ∧ findG (s.allocs.drop k) id k = i ∧ (s.allocs.getD i default).spec.id = id ∧ ∀ j, k ≤ j → j < i → (s.allocs.getD j default).spec.id ≠ id) ∨ (findG (s.allocs.drop k) id k = -1 ∧ ∀ j, k ≤ j → j < s.allocs.length → (s.allocs.getD j default).spec.id ≠ id) := by
  intro k hk
  generalize hm : s.allocs.length - k = m
  induction m generalizing k with
  | zero =>
    right
    rw [List.drop_of_length_le (by omega)]
    exact ⟨rfl, fun j h1 h2 => by omega⟩
  | succ m ih =>
    have hk2 : k < s.allocs.length := by omega
    rw [dropAtD hk2, findG_cons]
    by_cases c : (s.allocs.getD k default).spec.id = id
    · rw [if_pos c]
      exact .inl ⟨k, Nat.le_refl _, hk2, rfl, c, fun j h1 h2 => by omega⟩
    · rw [if_neg c]
      rcases ih (k + 1) hk2 (by omega) with ⟨i, h1, h2, h3, h4, h5⟩ | ⟨h1, h2⟩
      · exact .inl ⟨i, by omega, h2, h3, h4, fun j hj1 hj2 => by
          rcases Nat.eq_or_lt_of_le hj1 with e | e
          · rw [← e]; exact c
          · exact h5 j e hj2⟩
      · exact .inr ⟨h1, fun j hj1 hj2 => by
          rcases Nat.eq_or_lt_of_le hj1 with e | e
          · rw [← e]; exact c
          · exact h2 j e hj2⟩
def State.at_ (s : State) (x : Token) : Nat := (findG s.allocs x.alloc 0).toNat
def State.tk (s : State) (x : Token) : Task := (s.allocs.getD (s.at_ x) default).tasks.getD x.task.toNat default
def liveS (n : Int) : Prop := n = 1 ∨ n = 2 ∨ n = 4 ∨ n = 5
def curOk (s : State) (x : Token) : Prop := 0 ≤ findG s.allocs x.alloc 0 ∧ 0 ≤ x.task ∧ x.task < (s.allocs.getD (s.at_ x) default).tasks.length ∧ liveS (s.tk x).state ∧ (s.tk x).inc = x.inc
open Classical in
noncomputable def curB (s : State) (x : Token) : Bool := decide (curOk s x)
open Classical in
theorem curB_y {s : State} {x : Token} (h : curOk s x) : curB s x = true := decide_eq_true h
open Classical in
theorem curB_n {s : State} {x : Token} (h : ¬ curOk s x) : curB s x = false := decide_eq_false h
noncomputable def curA (s : State) (x : Token) : AV := .tup [I (if curB s x = true then findG s.allocs x.alloc 0 else 0), I (if curB s x = true then x.task else 0), B (curB s x)]
open Classical in
theorem current_p (s : State) (x : Token) : Pure Tryz.prog 37 [s.av, x.av] (curA s x) := by
  have hno : ¬ curOk s x → curA s x = .tup [I 0, I 0, B false] := fun h => by unfold curA; rw [curB_n h]; rfl
  have hyes : curOk s x → curA s x = .tup [I (findG s.allocs x.alloc 0), I x.task, B true] := fun h => by unfold curA; rw [curB_y h]; rfl
  rcases findG_spec (s := s) (id := x.alloc) 0 (Nat.zero_le _) with ⟨i, _, hi, hf, _⟩ | ⟨hf, _⟩
  case inr =>
    rw [List.drop_zero] at hf
    rw [hno (fun ho => by have := ho.1; omega)]
    refine Pure.ev Tryz.f37 mx Tryz.func37 (by kernel_rfl) rfl rfl rfl ?_ <;> (refine goS ?_ <;> repeat (intro _ <;> refine goS ?_))
    (first | refine Pure.call (find_p s x.alloc) ?_ | refine HCall.pure (find_p s x.alloc) ?_) <;> (refine goS ?_ <;> repeat (intro _ <;> refine goS ?_))
    rw [hf]
    (refine goS ?_ <;> repeat (intro _ <;> refine goS ?_))
    exact ret_now _ rfl
  rw [List.drop_zero] at hf
  have hat : s.at_ x = i := by unfold State.at_; omega
  by_cases ht : 0 ≤ x.task ∧ x.task < (s.allocs.getD i default).tasks.length
  case neg =>
    rw [hno (fun ho => by have := ho.2.1; have := ho.2.2.1; rw [hat] at this; omega)]
    refine Pure.ev Tryz.f37 mx Tryz.func37 (by kernel_rfl) rfl rfl rfl ?_ <;> (refine goS ?_ <;> repeat (intro _ <;> refine goS ?_))
    (first | refine Pure.call (find_p s x.alloc) ?_ | refine HCall.pure (find_p s x.alloc) ?_) <;> (refine goS ?_ <;> repeat (intro _ <;> refine goS ?_))
    rw [hf]
    (refine goS ?_ <;> repeat (intro _ <;> refine goS ?_))
    repeat' ((refine bnS (fun hr h => ?_) (fun hr h => ?_) <;> first | (exfalso; omega) | ((refine goS ?_ <;> repeat (intro _ <;> refine goS ?_)))))
    all_goals first
      | exact ret_now _ rfl
      | (exfalso; simp only [toNat_nat] at *; omega)
  have hcur : curOk s x ↔ liveS (s.tk x).state ∧ (s.tk x).inc = x.inc := by
    unfold curOk
    rw [hat, hf]
    exact ⟨fun h => h.2.2.2, fun h => ⟨by omega, ht.1, ht.2, h⟩⟩
  have htk : s.tk x = (s.allocs.getD i default).tasks.getD x.task.toNat default := by unfold State.tk; rw [hat]
  rw [htk] at hcur
  have key : ∀ r, r = curA s x → (freeN 5 r = true) → Pure Tryz.prog 37 [s.av, x.av] r := fun r hreq hfr => by
    refine Pure.ev Tryz.f37 mx Tryz.func37 (by kernel_rfl) rfl rfl hfr ?_ <;> (refine goS ?_ <;> repeat (intro _ <;> refine goS ?_))
    (first | refine Pure.call (find_p s x.alloc) ?_ | refine HCall.pure (find_p s x.alloc) ?_) <;> (refine goS ?_ <;> repeat (intro _ <;> refine goS ?_))
    rw [hf]
    (refine goS ?_ <;> repeat (intro _ <;> refine goS ?_))
    repeat' (first
      | ((refine bnS (fun hr h => ?_) (fun hr h => ?_) <;> first | (exfalso; omega) | ((refine goS ?_ <;> repeat (intro _ <;> refine goS ?_)))))
      | (rw [Int.toNat_natCast] <;> (refine goS ?_ <;> repeat (intro _ <;> refine goS ?_))))
    all_goals (try simp only [toNat_nat] at *)
    all_goals first
      | (exfalso; omega)
      | exact ret_now _ (by rw [hreq, hno (fun ho => by have := hcur.1 ho; unfold liveS at this; omega)])
      | exact ret_now _ (by rw [hreq, hyes (hcur.2 ⟨by unfold liveS; omega, by omega⟩), hf])
  exact key _ rfl (by unfold curA; rfl)
abbrev slPr (l : List Proc) : AV := .sl 9 l.length fun i => Proc.fv (l.getD i default)
theorem fvPr (xs : List Proc) (i : Nat) (h : i < xs.length) : (xs.map fun r => (Proc.fv r).map FV.up)[i]? = some ((Proc.fv (xs.getD i default)).map FV.up) := by
  simp [List.getD_eq_getElem?_getD, h]
def fenB (c : Config) (ack now : Int) : Bool := decide (ack < 0 ∨ ack + c.lease + c.grace < now)
def ovrB (c : Config) (ack now : Int) : Bool := decide (ack < 0 ∨ ack + c.lease < now)
def nodeA (c : Config) (now : Int) : AV := .agg [I c.cap.cpu, I c.cap.mem, I c.cap.disk, I c.allocs, I c.area, I c.files, I c.blocks, I c.beat, I c.lease, I c.grace, I c.wait, I now]
theorem nodeFenced_p (c : Config) (ack now : Int) (hc : c.ok) (ha : inR ack (-1) 1099511627776) : Pure Tryz.prog 147 [nodeA c now, I ack] (B (fenB c ack now)) := by
  have e1 : IntKind.i64.wrap (ack + c.lease) = ack + c.lease := wrap_id (by have := hc.2.2.2.2.2.2.1; unfold inR at *; omega) (by have := hc.2.2.2.2.2.2.1; unfold inR at *; omega)
  have e2 : IntKind.i64.wrap (ack + c.lease + c.grace) = ack + c.lease + c.grace := wrap_id (by have := hc.2.2.2.2.2.2.1; have := hc.2.2.2.2.2.2.2.1; unfold inR at *; omega) (by have := hc.2.2.2.2.2.2.1; have := hc.2.2.2.2.2.2.2.1; unfold inR at *; omega)
  refine Pure.ev Tryz.f147 mx Tryz.func147 (by kernel_rfl) rfl rfl rfl ?_ <;> (refine goS ?_ <;> repeat (intro _ <;> refine goS ?_))
  repeat' ((refine bnS (fun hr h => ?_) (fun hr h => ?_) <;> first | (exact False.elim h) | ((refine goS ?_ <;> repeat (intro _ <;> refine goS ?_)))))
  all_goals (refine ret_now _ (bdec ?_))
  all_goals (try rw [e1, e2])
  all_goals (simp; try omega)
theorem nodeOver_p (c : Config) (ack now : Int) (hc : c.ok) (ha : inR ack (-1) 1099511627776) : Pure Tryz.prog 146 [nodeA c now, I ack] (B (ovrB c ack now)) := by
  have e1 : IntKind.i64.wrap (ack + c.lease) = ack + c.lease := wrap_id (by have := hc.2.2.2.2.2.2.1; unfold inR at *; omega) (by have := hc.2.2.2.2.2.2.1; unfold inR at *; omega)
  refine Pure.ev Tryz.f146 mx Tryz.func146 (by kernel_rfl) rfl rfl rfl ?_ <;> (refine goS ?_ <;> repeat (intro _ <;> refine goS ?_))
  repeat' ((refine bnS (fun hr h => ?_) (fun hr h => ?_) <;> first | (exact False.elim h) | ((refine goS ?_ <;> repeat (intro _ <;> refine goS ?_)))))
  all_goals (refine ret_now _ (bdec ?_))
  all_goals (try rw [e1])
  all_goals (simp; try omega)
theorem fenced_p (c : Config) (ack now : Int) (hc : c.ok) (ha : inR ack (-1) 1099511627776) (hn : inR now 0 1099511627776) : Pure Tryz.prog 79 [c.av, I ack, I now] (.tup [B (fenB c ack now), I 0]) := by
  have ha' := ha; have hn' := hn
  unfold inR at ha' hn'
  refine Pure.ev Tryz.f79 mx Tryz.func79 (by kernel_rfl) rfl rfl rfl ?_ <;> (refine goS ?_ <;> repeat (intro _ <;> refine goS ?_))
  refine ACalls.ev Tryz.f145 mx Tryz.func145 (by kernel_rfl) rfl ?_ <;> (refine goS ?_ <;> repeat (intro _ <;> refine goS ?_))
  (first | refine Pure.call (config_p c) ?_ | refine HCall.pure (config_p c) ?_) <;> (refine goS ?_ <;> repeat (intro _ <;> refine goS ?_))
  rw [eUn_y hc]
  (refine goS ?_ <;> repeat (intro _ <;> refine goS ?_))
  repeat' ((refine bnS (fun hr h => ?_) (fun hr h => ?_) <;> first | (exfalso; omega) | ((refine goS ?_ <;> repeat (intro _ <;> refine goS ?_)))))
  (first | refine Pure.call (nodeFenced_p c ack now hc ha) ?_ | refine HCall.pure (nodeFenced_p c ack now hc ha) ?_) <;> (refine goS ?_ <;> repeat (intro _ <;> refine goS ?_))
  refine ret_now _ ?_ <;> (refine goS ?_ <;> repeat (intro _ <;> refine goS ?_))
  exact ret_now _ rfl
theorem over_p (c : Config) (ack now : Int) (hc : c.ok) (ha : inR ack (-1) 1099511627776) (hn : inR now 0 1099511627776) : Pure Tryz.prog 78 [c.av, I ack, I now] (.tup [B (ovrB c ack now), I 0]) := by
  have ha' := ha; have hn' := hn
  unfold inR at ha' hn'
  refine Pure.ev Tryz.f78 mx Tryz.func78 (by kernel_rfl) rfl rfl rfl ?_ <;> (refine goS ?_ <;> repeat (intro _ <;> refine goS ?_))
  refine ACalls.ev Tryz.f145 mx Tryz.func145 (by kernel_rfl) rfl ?_ <;> (refine goS ?_ <;> repeat (intro _ <;> refine goS ?_))
  (first | refine Pure.call (config_p c) ?_ | refine HCall.pure (config_p c) ?_) <;> (refine goS ?_ <;> repeat (intro _ <;> refine goS ?_))
  rw [eUn_y hc]
  (refine goS ?_ <;> repeat (intro _ <;> refine goS ?_))
  repeat' ((refine bnS (fun hr h => ?_) (fun hr h => ?_) <;> first | (exfalso; omega) | ((refine goS ?_ <;> repeat (intro _ <;> refine goS ?_)))))
  (first | refine Pure.call (nodeOver_p c ack now hc ha) ?_ | refine HCall.pure (nodeOver_p c ack now hc ha) ?_) <;> (refine goS ?_ <;> repeat (intro _ <;> refine goS ?_))
  refine ret_now _ ?_ <;> (refine goS ?_ <;> repeat (intro _ <;> refine goS ?_))
  exact ret_now _ rfl
theorem stE0 {c : Config} {s : State} (h : stE c s = 0) : c.ok ∧ stOk c s := by
  by_cases hc : c.ok
  · by_cases hs : stOk c s
    · exact ⟨hc, hs⟩
    · rw [stE_n hc hs] at h; cases h
  · rw [stE_c hc] at h; cases h
def judgeA (s : State) (f : Bool) : AV := .agg [I s.epoch, I s.next, I s.lives, I s.ack, .sl 10 s.allocs.length fun i => Alloc.fv (s.allocs.getD i default), B f]
abbrev nilS : AV := .val (.slice none 0 0)
def judge0 : AV := .agg [I 0, I 0, I 0, I 0, nilS, B false]
end Go.Proofs.YtdblhmpcilihnaaGreat
