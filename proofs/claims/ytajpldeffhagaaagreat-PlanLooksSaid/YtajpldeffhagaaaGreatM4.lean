/- Room: what the allocations that are not over use. Ports of different allocations. -/
import Derived.Test.YtajpldeffhagaaaGreatM2
import Derived.Test.YtajpldeffhagaaaGreatM3
import Derived.Test.YtajpldeffhagaaaGreatPConv
namespace Go.Proofs.YtajpldeffhagaaaGreat
open Go.RowKit E
set_option maxRecDepth 100000
set_option linter.unusedVariables false
set_option linter.unusedSimpArgs false
noncomputable def live (l : List Alloc) : List Alloc := l.filter fun a => !overB a
theorem live_snoc (l : List Alloc) (a : Alloc) : live (l ++ [a]) = if overB a = true then live l else live l ++ [a] := by
  unfold live
  rw [List.filter_append]
  by_cases h : overB a = true <;> simp [h]
theorem takeS {α : Type} [Inhabited α] {l : List α} {k : Nat} (h : k < l.length) : l.take (k + 1) = l.take k ++ [l.getD k default] := by
  rw [List.take_succ_eq_append_getElem h, List.getD_eq_getElem?_getD, List.getElem?_eq_getElem h]; rfl
theorem live_len (l : List Alloc) : (live l).length ≤ l.length := List.length_filter_le _ _
noncomputable def usedR (l : List Alloc) : List Res := (live l).map fun a => a.spec.res
noncomputable def usedP (l : List Alloc) : List (List Int) := (live l).map fun a => a.spec.ports
noncomputable def roomB (c : Config) (l : List Res) : Bool := match sumR ⟨0, 0, 0⟩ l with
  | some x => decide (x.le c.cap)
  | none => false
theorem fv0 (xs : List Res) (i : Nat) (h : i < xs.length) : (xs.map fun r => (Res.fv r).map FV.up)[i]? = some ((Res.fv (xs.getD i default)).map FV.up) := by
  simp [List.getD_eq_getElem?_getD, h]
theorem room_p (c : Config) (s : State) (m : Res) (hs : s.allocs.length ≤ 1000) : Pure Tryz.prog 60 [c.av, s.av, m.av] (B (roomB c (m :: usedR s.allocs))) := by
  refine Pure.ev Tryz.f60 mx Tryz.func60 (by kernel_rfl) rfl rfl rfl ?_ <;> (conv => whnf) <;> repeat ((first | refine SeqW.go ?_ | refine And.intro trivial ?_ | refine And.intro (And.intro (Nat.le_of_ble_eq_true rfl) (Nat.le_of_ble_eq_true rfl)) ?_ | refine And.intro (And.intro (Nat.le_of_ble_eq_true rfl) (oneRows_of rfl)) ?_ | refine And.intro (And.intro (Nat.eq_of_beq_eq_true rfl) (And.intro (oneRows_of rfl) (Nat.le_of_ble_eq_true rfl))) ?_ | refine And.intro (Nat.le_of_ble_eq_true rfl) ?_ | refine And.intro (And.intro (by omega) (by omega)) ?_ | refine And.intro (by omega) ?_ | refine And.intro (And.intro (by decide) (by decide)) ?_ | intro _ | refine And.intro rfl ?_ | refine onB_t (by with_reducible assumption) ?_ | refine onB_f (by with_reducible assumption) ?_) <;> (conv => whnf))
  refine loop_st (S := Nat) (fun k => [(3, .hptr 0 11 0 0), (7, .hsl 3 3 0 (1 + (usedR (s.allocs.take k)).length) (1 + (usedR (s.allocs.take k)).length) false), (15, .sl 10 s.allocs.length fun i => Alloc.fv (s.allocs.getD i default)), (16, I s.allocs.length), (17, I k)])
    (fun k => ⟨4, [(3, some ⟨3, (m :: usedR (s.allocs.take k)).map fun r => (Res.fv r).map FV.up, none⟩), (0, some ⟨11, [c.fv.map FV.up], none⟩)]⟩) (fun k => k ≤ s.allocs.length) (fun k => s.allocs.length - k) 0
    ((Wk.exf 7 rfl).trans (Wk.cut rfl ⟨⟨rfl, rfl⟩, ⟨rfl, rfl⟩, ⟨rfl, rfl⟩, ⟨rfl, rfl⟩, ⟨rfl, rfl⟩, trivial⟩ ⟨⟨rfl, rfl, row1 rfl, nofun⟩, ⟨rfl, rfl, row1 rfl, nofun⟩, trivial⟩)) (Nat.zero_le _) ?_
  rintro k hk
  (conv => whnf) <;> repeat ((first | refine SeqW.go ?_ | refine And.intro trivial ?_ | refine And.intro (And.intro (Nat.le_of_ble_eq_true rfl) (Nat.le_of_ble_eq_true rfl)) ?_ | refine And.intro (And.intro (Nat.le_of_ble_eq_true rfl) (oneRows_of rfl)) ?_ | refine And.intro (And.intro (Nat.eq_of_beq_eq_true rfl) (And.intro (oneRows_of rfl) (Nat.le_of_ble_eq_true rfl))) ?_ | refine And.intro (Nat.le_of_ble_eq_true rfl) ?_ | refine And.intro (And.intro (by omega) (by omega)) ?_ | refine And.intro (by omega) ?_ | refine And.intro (And.intro (by decide) (by decide)) ?_ | intro _ | refine And.intro rfl ?_ | refine onB_t (by with_reducible assumption) ?_ | refine onB_f (by with_reducible assumption) ?_) <;> (conv => whnf))
  (refine onB_mk (fun hr => ?_) (fun hr => ?_) <;> (have h := hr) <;> (try simp [-List.getD_eq_getElem?_getD, wl, List.getD_cons_zero, List.getD_cons_succ] at h) <;> (conv => whnf) <;> repeat ((first | refine SeqW.go ?_ | refine And.intro trivial ?_ | refine And.intro (And.intro (Nat.le_of_ble_eq_true rfl) (Nat.le_of_ble_eq_true rfl)) ?_ | refine And.intro (And.intro (Nat.le_of_ble_eq_true rfl) (oneRows_of rfl)) ?_ | refine And.intro (And.intro (Nat.eq_of_beq_eq_true rfl) (And.intro (oneRows_of rfl) (Nat.le_of_ble_eq_true rfl))) ?_ | refine And.intro (Nat.le_of_ble_eq_true rfl) ?_ | refine And.intro (And.intro (by omega) (by omega)) ?_ | refine And.intro (by omega) ?_ | refine And.intro (And.intro (by decide) (by decide)) ?_ | intro _ | refine And.intro rfl ?_ | refine onB_t (by with_reducible assumption) ?_ | refine onB_f (by with_reducible assumption) ?_) <;> (conv => whnf)))
  · have hk2 : k < s.allocs.length := h
    (first | refine Pure.call (stateOver_p (s.allocs.getD k default)) ?_ | refine ⟨_, stateOver_p (s.allocs.getD k default), ?_⟩) <;> (conv => whnf) <;> repeat ((first | refine SeqW.go ?_ | refine And.intro trivial ?_ | refine And.intro (And.intro (Nat.le_of_ble_eq_true rfl) (Nat.le_of_ble_eq_true rfl)) ?_ | refine And.intro (And.intro (Nat.le_of_ble_eq_true rfl) (oneRows_of rfl)) ?_ | refine And.intro (And.intro (Nat.eq_of_beq_eq_true rfl) (And.intro (oneRows_of rfl) (Nat.le_of_ble_eq_true rfl))) ?_ | refine And.intro (Nat.le_of_ble_eq_true rfl) ?_ | refine And.intro (And.intro (by omega) (by omega)) ?_ | refine And.intro (by omega) ?_ | refine And.intro (And.intro (by decide) (by decide)) ?_ | intro _ | refine And.intro rfl ?_ | refine onB_t (by with_reducible assumption) ?_ | refine onB_f (by with_reducible assumption) ?_) <;> (conv => whnf))
    have hn : usedR (s.allocs.take (k + 1)) = if overB (s.allocs.getD k default) = true then usedR (s.allocs.take k) else usedR (s.allocs.take k) ++ [(s.allocs.getD k default).spec.res] := by
      unfold usedR
      rw [takeS hk2, live_snoc]
      split <;> simp
    have hl : (usedR (s.allocs.take k)).length ≤ k := by
      unfold usedR
      rw [List.length_map]
      exact Nat.le_trans (live_len _) (by simp; omega)
    cases ho : overB (s.allocs.getD k default)
    · rw [ho, if_neg (by simp)] at hn
      have hh : 0 + (1 + (usedR (s.allocs.take k)).length) = ((m :: usedR (s.allocs.take k)).map fun r => (Res.fv r).map FV.up).length ∧ oneRows [(Res.fv (s.allocs.getD k default).spec.res).map FV.up] ∧ ((1 + (usedR (s.allocs.take k)).length) + 1) * 24 ≤ 140737488355328 := ⟨by simp; omega, oneRows_of rfl, by omega⟩
      (conv => whnf) <;> repeat ((first | refine SeqW.go ?_ | refine And.intro trivial ?_ | refine And.intro (And.intro (Nat.le_of_ble_eq_true rfl) (Nat.le_of_ble_eq_true rfl)) ?_ | refine And.intro (And.intro (Nat.le_of_ble_eq_true rfl) (oneRows_of rfl)) ?_ | refine And.intro (And.intro (Nat.eq_of_beq_eq_true rfl) (And.intro (oneRows_of rfl) (Nat.le_of_ble_eq_true rfl))) ?_ | refine And.intro (Nat.le_of_ble_eq_true rfl) ?_ | refine And.intro (And.intro (by omega) (by omega)) ?_ | refine And.intro (by omega) ?_ | refine And.intro (And.intro (by decide) (by decide)) ?_ | intro _ | refine And.intro rfl ?_ | refine onB_t (by with_reducible assumption) ?_ | refine onB_f (by with_reducible assumption) ?_) <;> (conv => whnf))
      refine And.intro hh ?_ <;> (conv => whnf) <;> repeat ((first | refine SeqW.go ?_ | refine And.intro trivial ?_ | refine And.intro (And.intro (Nat.le_of_ble_eq_true rfl) (Nat.le_of_ble_eq_true rfl)) ?_ | refine And.intro (And.intro (Nat.le_of_ble_eq_true rfl) (oneRows_of rfl)) ?_ | refine And.intro (And.intro (Nat.eq_of_beq_eq_true rfl) (And.intro (oneRows_of rfl) (Nat.le_of_ble_eq_true rfl))) ?_ | refine And.intro (Nat.le_of_ble_eq_true rfl) ?_ | refine And.intro (And.intro (by omega) (by omega)) ?_ | refine And.intro (by omega) ?_ | refine And.intro (And.intro (by decide) (by decide)) ?_ | intro _ | refine And.intro rfl ?_ | refine onB_t (by with_reducible assumption) ?_ | refine onB_f (by with_reducible assumption) ?_) <;> (conv => whnf))
      exact ⟨k + 1, by omega, h, Wk.re (fun i => if i = 3 then 6 else i) rfl (nofun) (injL rfl) ⟨⟨rfl, rfl⟩, ⟨by rw [hn, List.length_append]; rfl, rfl⟩, ⟨rfl, rfl⟩, ⟨rfl, rfl⟩, ⟨by simp only [← wrapS (show k < 9223372036854775807 by omega)]; rfl, rfl⟩, trivial⟩
        ⟨⟨rfl, _, rfl, .inl ⟨by rw [hn, ← List.cons_append, List.map_append]; rfl, free_map⟩, nofun⟩, ⟨rfl, _, rfl, .inl ⟨rfl, free1 rfl⟩, nofun⟩, trivial⟩⟩
    · rw [ho, if_pos rfl] at hn
      (conv => whnf) <;> repeat ((first | refine SeqW.go ?_ | refine And.intro trivial ?_ | refine And.intro (And.intro (Nat.le_of_ble_eq_true rfl) (Nat.le_of_ble_eq_true rfl)) ?_ | refine And.intro (And.intro (Nat.le_of_ble_eq_true rfl) (oneRows_of rfl)) ?_ | refine And.intro (And.intro (Nat.eq_of_beq_eq_true rfl) (And.intro (oneRows_of rfl) (Nat.le_of_ble_eq_true rfl))) ?_ | refine And.intro (Nat.le_of_ble_eq_true rfl) ?_ | refine And.intro (And.intro (by omega) (by omega)) ?_ | refine And.intro (by omega) ?_ | refine And.intro (And.intro (by decide) (by decide)) ?_ | intro _ | refine And.intro rfl ?_ | refine onB_t (by with_reducible assumption) ?_ | refine onB_f (by with_reducible assumption) ?_) <;> (conv => whnf))
      exact ⟨k + 1, by omega, h, Wk.cut rfl ⟨⟨rfl, rfl⟩, ⟨by rw [hn]; rfl, rfl⟩, ⟨rfl, rfl⟩, ⟨rfl, rfl⟩, ⟨by simp only [← wrapS (show k < 9223372036854775807 by omega)]; rfl, rfl⟩, trivial⟩
        ⟨⟨by rw [hn]; rfl, rfl, bd_rows free_map, nofun⟩, ⟨rfl, rfl, row1 rfl, nofun⟩, trivial⟩⟩
  · have hkl : k = s.allocs.length := by omega
    subst hkl
    rw [List.take_length]
    have hp := sum_p (m :: usedR s.allocs)
    have hR : roomB c (m :: usedR s.allocs) = (match sumR ⟨0, 0, 0⟩ (m :: usedR s.allocs) with | some x => decide (x.le c.cap) | none => false) := rfl
    rw [hR]
    cases hS : sumR ⟨0, 0, 0⟩ (m :: usedR s.allocs) with
    | none =>
      rw [hS] at hp
      refine Pure.fz1 hp rfl (by simp; omega) (fun i hi => by rw [Nat.zero_add]; exact fv0 _ i hi) ?_
      (conv => whnf) <;> repeat ((first | refine SeqW.go ?_ | refine And.intro trivial ?_ | refine And.intro (And.intro (Nat.le_of_ble_eq_true rfl) (Nat.le_of_ble_eq_true rfl)) ?_ | refine And.intro (And.intro (Nat.le_of_ble_eq_true rfl) (oneRows_of rfl)) ?_ | refine And.intro (And.intro (Nat.eq_of_beq_eq_true rfl) (And.intro (oneRows_of rfl) (Nat.le_of_ble_eq_true rfl))) ?_ | refine And.intro (Nat.le_of_ble_eq_true rfl) ?_ | refine And.intro (And.intro (by omega) (by omega)) ?_ | refine And.intro (by omega) ?_ | refine And.intro (And.intro (by decide) (by decide)) ?_ | intro _ | refine And.intro rfl ?_ | refine onB_t (by with_reducible assumption) ?_ | refine onB_f (by with_reducible assumption) ?_) <;> (conv => whnf))
      exact ret_now _ rfl
    | some x =>
      rw [hS] at hp
      refine Pure.fz1 hp rfl (by simp; omega) (fun i hi => by rw [Nat.zero_add]; exact fv0 _ i hi) ?_
      (conv => whnf) <;> repeat ((first | refine SeqW.go ?_ | refine And.intro trivial ?_ | refine And.intro (And.intro (Nat.le_of_ble_eq_true rfl) (Nat.le_of_ble_eq_true rfl)) ?_ | refine And.intro (And.intro (Nat.le_of_ble_eq_true rfl) (oneRows_of rfl)) ?_ | refine And.intro (And.intro (Nat.eq_of_beq_eq_true rfl) (And.intro (oneRows_of rfl) (Nat.le_of_ble_eq_true rfl))) ?_ | refine And.intro (Nat.le_of_ble_eq_true rfl) ?_ | refine And.intro (And.intro (by omega) (by omega)) ?_ | refine And.intro (by omega) ?_ | refine And.intro (And.intro (by decide) (by decide)) ?_ | intro _ | refine And.intro rfl ?_ | refine onB_t (by with_reducible assumption) ?_ | refine onB_f (by with_reducible assumption) ?_) <;> (conv => whnf))
      (first | refine Pure.call (fits_p x c.cap) ?_ | refine ⟨_, fits_p x c.cap, ?_⟩) <;> (conv => whnf) <;> repeat ((first | refine SeqW.go ?_ | refine And.intro trivial ?_ | refine And.intro (And.intro (Nat.le_of_ble_eq_true rfl) (Nat.le_of_ble_eq_true rfl)) ?_ | refine And.intro (And.intro (Nat.le_of_ble_eq_true rfl) (oneRows_of rfl)) ?_ | refine And.intro (And.intro (Nat.eq_of_beq_eq_true rfl) (And.intro (oneRows_of rfl) (Nat.le_of_ble_eq_true rfl))) ?_ | refine And.intro (Nat.le_of_ble_eq_true rfl) ?_ | refine And.intro (And.intro (by omega) (by omega)) ?_ | refine And.intro (by omega) ?_ | refine And.intro (And.intro (by decide) (by decide)) ?_ | intro _ | refine And.intro rfl ?_ | refine onB_t (by with_reducible assumption) ?_ | refine onB_f (by with_reducible assumption) ?_) <;> (conv => whnf))
      exact ret_now _ rfl
theorem fvP (xs : List (List Int)) (i : Nat) (h : i < xs.length) : (xs.map fun l => [slI l])[i]? = some ([slIF (xs.getD i [])].map FV.up) := by
  simp [List.getD_eq_getElem?_getD, h]; rfl
theorem freeP {l : List (List Int)} : ∀ row ∈ l.map (fun x => [slI x]), freeL row = true := fun row h => by
  obtain ⟨x, _, rfl⟩ := List.mem_map.1 h
  rfl
theorem used_p (s : State) (hs : s.allocs.length ≤ 1000) : Pure Tryz.prog 26 [s.av] (.tup [slR (usedR s.allocs), slIs (usedP s.allocs)]) := by
  refine Pure.ev Tryz.f26 mx Tryz.func26 (by kernel_rfl) rfl rfl rfl ?_ <;> (conv => whnf) <;> repeat ((first | refine SeqW.go ?_ | refine And.intro trivial ?_ | refine And.intro (And.intro (Nat.le_of_ble_eq_true rfl) (Nat.le_of_ble_eq_true rfl)) ?_ | refine And.intro (And.intro (Nat.le_of_ble_eq_true rfl) (oneRows_of rfl)) ?_ | refine And.intro (And.intro (Nat.eq_of_beq_eq_true rfl) (And.intro (oneRows_of rfl) (Nat.le_of_ble_eq_true rfl))) ?_ | refine And.intro (Nat.le_of_ble_eq_true rfl) ?_ | refine And.intro (And.intro (by omega) (by omega)) ?_ | refine And.intro (by omega) ?_ | refine And.intro (And.intro (by decide) (by decide)) ?_ | intro _ | refine And.intro rfl ?_ | refine onB_t (by with_reducible assumption) ?_ | refine onB_f (by with_reducible assumption) ?_) <;> (conv => whnf))
  refine loop_st (S := Nat) (fun k => [(1, .hptr 0 5 0 0), (4, .hsl 1 3 0 (usedR (s.allocs.take k)).length (usedR (s.allocs.take k)).length false), (5, .hsl 2 1 0 (usedP (s.allocs.take k)).length (usedP (s.allocs.take k)).length false), (6, I k)])
    (fun k => ⟨3, [(2, some ⟨1, (usedP (s.allocs.take k)).map fun l => [slI l], none⟩), (1, some ⟨3, (usedR (s.allocs.take k)).map fun r => (Res.fv r).map FV.up, none⟩), (0, some ⟨5, [s.fv.map FV.up], none⟩)]⟩) (fun k => k ≤ s.allocs.length) (fun k => s.allocs.length - k) 0
    (((Wk.phantom 4 3 rfl).trans (Wk.phantom 5 1 rfl)).trans (Wk.cut rfl ⟨⟨rfl, rfl⟩, ⟨rfl, rfl⟩, ⟨rfl, rfl⟩, ⟨rfl, rfl⟩, trivial⟩ ⟨⟨rfl, rfl, nofun, nofun⟩, ⟨rfl, rfl, nofun, nofun⟩, ⟨rfl, rfl, row1 rfl, nofun⟩, trivial⟩)) (Nat.zero_le _) ?_
  rintro k hk
  (conv => whnf) <;> repeat ((first | refine SeqW.go ?_ | refine And.intro trivial ?_ | refine And.intro (And.intro (Nat.le_of_ble_eq_true rfl) (Nat.le_of_ble_eq_true rfl)) ?_ | refine And.intro (And.intro (Nat.le_of_ble_eq_true rfl) (oneRows_of rfl)) ?_ | refine And.intro (And.intro (Nat.eq_of_beq_eq_true rfl) (And.intro (oneRows_of rfl) (Nat.le_of_ble_eq_true rfl))) ?_ | refine And.intro (Nat.le_of_ble_eq_true rfl) ?_ | refine And.intro (And.intro (by omega) (by omega)) ?_ | refine And.intro (by omega) ?_ | refine And.intro (And.intro (by decide) (by decide)) ?_ | intro _ | refine And.intro rfl ?_ | refine onB_t (by with_reducible assumption) ?_ | refine onB_f (by with_reducible assumption) ?_) <;> (conv => whnf))
  (refine onB_mk (fun hr => ?_) (fun hr => ?_) <;> (have h := hr) <;> (try simp [-List.getD_eq_getElem?_getD, wl, List.getD_cons_zero, List.getD_cons_succ] at h) <;> (conv => whnf) <;> repeat ((first | refine SeqW.go ?_ | refine And.intro trivial ?_ | refine And.intro (And.intro (Nat.le_of_ble_eq_true rfl) (Nat.le_of_ble_eq_true rfl)) ?_ | refine And.intro (And.intro (Nat.le_of_ble_eq_true rfl) (oneRows_of rfl)) ?_ | refine And.intro (And.intro (Nat.eq_of_beq_eq_true rfl) (And.intro (oneRows_of rfl) (Nat.le_of_ble_eq_true rfl))) ?_ | refine And.intro (Nat.le_of_ble_eq_true rfl) ?_ | refine And.intro (And.intro (by omega) (by omega)) ?_ | refine And.intro (by omega) ?_ | refine And.intro (And.intro (by decide) (by decide)) ?_ | intro _ | refine And.intro rfl ?_ | refine onB_t (by with_reducible assumption) ?_ | refine onB_f (by with_reducible assumption) ?_) <;> (conv => whnf)))
  · have hk2 : k < s.allocs.length := h
    (first | refine Pure.call (refOver_p (s.allocs.getD k default)) ?_ | refine ⟨_, refOver_p (s.allocs.getD k default), ?_⟩) <;> (conv => whnf) <;> repeat ((first | refine SeqW.go ?_ | refine And.intro trivial ?_ | refine And.intro (And.intro (Nat.le_of_ble_eq_true rfl) (Nat.le_of_ble_eq_true rfl)) ?_ | refine And.intro (And.intro (Nat.le_of_ble_eq_true rfl) (oneRows_of rfl)) ?_ | refine And.intro (And.intro (Nat.eq_of_beq_eq_true rfl) (And.intro (oneRows_of rfl) (Nat.le_of_ble_eq_true rfl))) ?_ | refine And.intro (Nat.le_of_ble_eq_true rfl) ?_ | refine And.intro (And.intro (by omega) (by omega)) ?_ | refine And.intro (by omega) ?_ | refine And.intro (And.intro (by decide) (by decide)) ?_ | intro _ | refine And.intro rfl ?_ | refine onB_t (by with_reducible assumption) ?_ | refine onB_f (by with_reducible assumption) ?_) <;> (conv => whnf))
    have hn : usedR (s.allocs.take (k + 1)) = if overB (s.allocs.getD k default) = true then usedR (s.allocs.take k) else usedR (s.allocs.take k) ++ [(s.allocs.getD k default).spec.res] := by
      unfold usedR
      rw [takeS hk2, live_snoc]
      split <;> simp
    have hn2 : usedP (s.allocs.take (k + 1)) = if overB (s.allocs.getD k default) = true then usedP (s.allocs.take k) else usedP (s.allocs.take k) ++ [(s.allocs.getD k default).spec.ports] := by
      unfold usedP
      rw [takeS hk2, live_snoc]
      split <;> simp
    have hl : (usedR (s.allocs.take k)).length ≤ k := by
      unfold usedR
      rw [List.length_map]
      exact Nat.le_trans (live_len _) (by simp; omega)
    have hl2 : (usedP (s.allocs.take k)).length ≤ k := by
      unfold usedP
      rw [List.length_map]
      exact Nat.le_trans (live_len _) (by simp; omega)
    cases ho : overB (s.allocs.getD k default)
    · rw [ho, if_neg (by simp)] at hn hn2
      have hh : 0 + (usedR (s.allocs.take k)).length = ((usedR (s.allocs.take k)).map fun r => (Res.fv r).map FV.up).length ∧ oneRows [(Res.fv (s.allocs.getD k default).spec.res).map FV.up] ∧ ((usedR (s.allocs.take k)).length + 1) * 24 ≤ 140737488355328 := ⟨by simp, oneRows_of rfl, by omega⟩
      have hh2 : 0 + (usedP (s.allocs.take k)).length = ((usedP (s.allocs.take k)).map fun l => [slI l]).length ∧ oneRows [[slI (s.allocs.getD k default).spec.ports]] ∧ ((usedP (s.allocs.take k)).length + 1) * 24 ≤ 140737488355328 := ⟨by simp, oneRows_of rfl, by omega⟩
      (conv => whnf) <;> repeat ((first | refine SeqW.go ?_ | refine And.intro trivial ?_ | refine And.intro (And.intro (Nat.le_of_ble_eq_true rfl) (Nat.le_of_ble_eq_true rfl)) ?_ | refine And.intro (And.intro (Nat.le_of_ble_eq_true rfl) (oneRows_of rfl)) ?_ | refine And.intro (And.intro (Nat.eq_of_beq_eq_true rfl) (And.intro (oneRows_of rfl) (Nat.le_of_ble_eq_true rfl))) ?_ | refine And.intro (Nat.le_of_ble_eq_true rfl) ?_ | refine And.intro (And.intro (by omega) (by omega)) ?_ | refine And.intro (by omega) ?_ | refine And.intro (And.intro (by decide) (by decide)) ?_ | intro _ | refine And.intro rfl ?_ | refine onB_t (by with_reducible assumption) ?_ | refine onB_f (by with_reducible assumption) ?_) <;> (conv => whnf))
      refine And.intro hh ?_ <;> (conv => whnf) <;> repeat ((first | refine SeqW.go ?_ | refine And.intro trivial ?_ | refine And.intro (And.intro (Nat.le_of_ble_eq_true rfl) (Nat.le_of_ble_eq_true rfl)) ?_ | refine And.intro (And.intro (Nat.le_of_ble_eq_true rfl) (oneRows_of rfl)) ?_ | refine And.intro (And.intro (Nat.eq_of_beq_eq_true rfl) (And.intro (oneRows_of rfl) (Nat.le_of_ble_eq_true rfl))) ?_ | refine And.intro (Nat.le_of_ble_eq_true rfl) ?_ | refine And.intro (And.intro (by omega) (by omega)) ?_ | refine And.intro (by omega) ?_ | refine And.intro (And.intro (by decide) (by decide)) ?_ | intro _ | refine And.intro rfl ?_ | refine onB_t (by with_reducible assumption) ?_ | refine onB_f (by with_reducible assumption) ?_) <;> (conv => whnf))
      refine And.intro hh2 ?_ <;> (conv => whnf) <;> repeat ((first | refine SeqW.go ?_ | refine And.intro trivial ?_ | refine And.intro (And.intro (Nat.le_of_ble_eq_true rfl) (Nat.le_of_ble_eq_true rfl)) ?_ | refine And.intro (And.intro (Nat.le_of_ble_eq_true rfl) (oneRows_of rfl)) ?_ | refine And.intro (And.intro (Nat.eq_of_beq_eq_true rfl) (And.intro (oneRows_of rfl) (Nat.le_of_ble_eq_true rfl))) ?_ | refine And.intro (Nat.le_of_ble_eq_true rfl) ?_ | refine And.intro (And.intro (by omega) (by omega)) ?_ | refine And.intro (by omega) ?_ | refine And.intro (And.intro (by decide) (by decide)) ?_ | intro _ | refine And.intro rfl ?_ | refine onB_t (by with_reducible assumption) ?_ | refine onB_f (by with_reducible assumption) ?_) <;> (conv => whnf))
      exact ⟨k + 1, by omega, h, Wk.re (fun i => if i = 1 then 4 else if i = 2 then 6 else i) rfl (nofun) (injL rfl) ⟨⟨rfl, rfl⟩, ⟨by rw [hn, List.length_append]; rfl, rfl⟩, ⟨by rw [hn2, List.length_append]; rfl, rfl⟩, ⟨by simp only [← wrapS (show k < 9223372036854775807 by omega)]; rfl, rfl⟩, trivial⟩
        ⟨⟨rfl, _, rfl, .inl ⟨by rw [hn2, List.map_append]; rfl, freeP⟩, nofun⟩, ⟨rfl, _, rfl, .inl ⟨by rw [hn, List.map_append]; rfl, free_map⟩, nofun⟩, ⟨rfl, _, rfl, .inl ⟨rfl, free1 rfl⟩, nofun⟩, trivial⟩⟩
    · rw [ho, if_pos rfl] at hn hn2
      (conv => whnf) <;> repeat ((first | refine SeqW.go ?_ | refine And.intro trivial ?_ | refine And.intro (And.intro (Nat.le_of_ble_eq_true rfl) (Nat.le_of_ble_eq_true rfl)) ?_ | refine And.intro (And.intro (Nat.le_of_ble_eq_true rfl) (oneRows_of rfl)) ?_ | refine And.intro (And.intro (Nat.eq_of_beq_eq_true rfl) (And.intro (oneRows_of rfl) (Nat.le_of_ble_eq_true rfl))) ?_ | refine And.intro (Nat.le_of_ble_eq_true rfl) ?_ | refine And.intro (And.intro (by omega) (by omega)) ?_ | refine And.intro (by omega) ?_ | refine And.intro (And.intro (by decide) (by decide)) ?_ | intro _ | refine And.intro rfl ?_ | refine onB_t (by with_reducible assumption) ?_ | refine onB_f (by with_reducible assumption) ?_) <;> (conv => whnf))
      exact ⟨k + 1, by omega, h, Wk.cut rfl ⟨⟨rfl, rfl⟩, ⟨by rw [hn]; rfl, rfl⟩, ⟨by rw [hn2]; rfl, rfl⟩, ⟨by simp only [← wrapS (show k < 9223372036854775807 by omega)]; rfl, rfl⟩, trivial⟩
        ⟨⟨by rw [hn2]; rfl, rfl, bd_rows freeP, nofun⟩, ⟨by rw [hn]; rfl, rfl, bd_rows free_map, nofun⟩, ⟨rfl, rfl, row1 rfl, nofun⟩, trivial⟩⟩
  · have hkl : k = s.allocs.length := by omega
    subst hkl
    rw [List.take_length]
    have h1 : Wk 0 [(0, AV.tup [AV.hsl 1 3 0 (usedR s.allocs).length (usedR s.allocs).length false, AV.hsl 2 1 0 (usedP s.allocs).length (usedP s.allocs).length false])]
        ⟨3, [(2, some ⟨1, (usedP s.allocs).map fun l => [slI l], none⟩), (1, some ⟨3, (usedR s.allocs).map fun r => (Res.fv r).map FV.up, none⟩), (0, some ⟨5, [s.fv.map FV.up], none⟩)]⟩ _ _ :=
      Wk.freeze (t := 0) (id := 1) (x1 := AV.tup [slR (usedR s.allocs), AV.hsl 2 1 0 (usedP s.allocs).length (usedP s.allocs).length false]) rfl ⟨⟨⟨⟨rfl, rfl⟩, rfl, rfl⟩, fun i hi => by rw [Nat.zero_add]; exact fv0 _ i hi⟩, rfl, trivial⟩
    have h2 := Wk.freeze (n0 := 0) (fr := [(0, AV.tup [slR (usedR s.allocs), AV.hsl 2 1 0 (usedP s.allocs).length (usedP s.allocs).length false])]) (H := (Hp.set ⟨3, [(2, some ⟨1, (usedP s.allocs).map fun l => [slI l], none⟩), (1, some ⟨3, (usedR s.allocs).map fun r => (Res.fv r).map FV.up, none⟩), (0, some ⟨5, [s.fv.map FV.up], none⟩)]⟩ 1 none))
      (t := 0) (id := 2) (blk := ⟨1, (usedP s.allocs).map fun l => [slI l], none⟩) (x1 := AV.tup [slR (usedR s.allocs), slIs (usedP s.allocs)]) rfl ⟨rfl, ⟨⟨⟨rfl, rfl⟩, rfl, rfl⟩, fun i hi => by rw [Nat.zero_add]; exact fvP _ i hi⟩, trivial⟩
    exact ⟨_, _, (h1.trans (Wk.sub (fr1 := [(0, AV.tup [slR (usedR s.allocs), AV.hsl 2 1 0 (usedP s.allocs).length (usedP s.allocs).length false])]) ⟨rfl, trivial⟩)).trans (h2.trans (Wk.sub (fr1 := [(0, AV.tup [slR (usedR s.allocs), slIs (usedP s.allocs)])]) ⟨rfl, trivial⟩)), rfl⟩
def pdis (l : List (List Int)) : Prop := ∀ i j, j < i → i < l.length → meetF (l.getD i []) (l.getD j []) = []
theorem pdis_nil : pdis [] := fun i j _ h => absurd h (Nat.not_lt_zero _)
theorem pdis_snoc (l : List (List Int)) (x : List Int) : pdis (l ++ [x]) ↔ pdis l ∧ ∀ y ∈ l, meetF x y = [] := by
  constructor
  · intro h
    refine ⟨fun i j hj hi => ?_, fun y hy => ?_⟩
    · have := h i j hj (by simp; omega)
      simpa [List.getD_eq_getElem?_getD, List.getElem?_append_left hi, List.getElem?_append_left (show j < l.length by omega)] using this
    · obtain ⟨j, hj, rfl⟩ := List.getElem_of_mem hy
      have := h l.length j hj (by simp)
      simpa [List.getD_eq_getElem?_getD, List.getElem?_append_left hj, hj] using this
  · rintro ⟨h1, h2⟩ i j hj hi
    by_cases c : i < l.length
    · have := h1 i j hj c
      simpa [List.getD_eq_getElem?_getD, List.getElem?_append_left c, List.getElem?_append_left (show j < l.length by omega)] using this
    · have hil : i = l.length := by simp at hi; omega
      subst hil
      have := h2 (l[j]) (List.getElem_mem hj)
      simpa [List.getD_eq_getElem?_getD, List.getElem?_append_left hj, hj] using this
theorem meet_nil {a b : List Int} : meetF a b = [] ↔ ∀ x, x ∈ a → x ∉ b := by
  rw [List.eq_nil_iff_forall_not_mem]
  simp only [mem_meetF, not_and]
theorem meetLen {a b : List Int} : (meetF a b).length = 0 ↔ meetF a b = [] := List.length_eq_zero_iff
open Classical in
noncomputable def pdisB (l : List (List Int)) : Bool := decide (pdis l)
open Classical in
theorem refFits_p (c : Config) (l : List Res) (p : List (List Int)) (hp : ∀ i, (p.getD i []).length ≤ 1000) : Pure Tryz.prog 27 [c.av, slR l, slIs p] (B (roomB c l && pdisB p)) := by
  have hS := sum09_p l
  have hR : roomB c l = (match sumR ⟨0, 0, 0⟩ l with | some x => decide (x.le c.cap) | none => false) := rfl
  rw [hR]
  cases hc : sumR ⟨0, 0, 0⟩ l with
  | none =>
    rw [hc] at hS
    refine Pure.ev Tryz.f27 mx Tryz.func27 (by kernel_rfl) rfl rfl rfl ?_ <;> (conv => whnf) <;> repeat ((first | refine SeqW.go ?_ | refine And.intro trivial ?_ | refine And.intro (And.intro (Nat.le_of_ble_eq_true rfl) (Nat.le_of_ble_eq_true rfl)) ?_ | refine And.intro (And.intro (Nat.le_of_ble_eq_true rfl) (oneRows_of rfl)) ?_ | refine And.intro (And.intro (Nat.eq_of_beq_eq_true rfl) (And.intro (oneRows_of rfl) (Nat.le_of_ble_eq_true rfl))) ?_ | refine And.intro (Nat.le_of_ble_eq_true rfl) ?_ | refine And.intro (And.intro (by omega) (by omega)) ?_ | refine And.intro (by omega) ?_ | refine And.intro (And.intro (by decide) (by decide)) ?_ | intro _ | refine And.intro rfl ?_ | refine onB_t (by with_reducible assumption) ?_ | refine onB_f (by with_reducible assumption) ?_) <;> (conv => whnf))
    (first | refine Pure.call (hS) ?_ | refine ⟨_, hS, ?_⟩) <;> (conv => whnf) <;> repeat ((first | refine SeqW.go ?_ | refine And.intro trivial ?_ | refine And.intro (And.intro (Nat.le_of_ble_eq_true rfl) (Nat.le_of_ble_eq_true rfl)) ?_ | refine And.intro (And.intro (Nat.le_of_ble_eq_true rfl) (oneRows_of rfl)) ?_ | refine And.intro (And.intro (Nat.eq_of_beq_eq_true rfl) (And.intro (oneRows_of rfl) (Nat.le_of_ble_eq_true rfl))) ?_ | refine And.intro (Nat.le_of_ble_eq_true rfl) ?_ | refine And.intro (And.intro (by omega) (by omega)) ?_ | refine And.intro (by omega) ?_ | refine And.intro (And.intro (by decide) (by decide)) ?_ | intro _ | refine And.intro rfl ?_ | refine onB_t (by with_reducible assumption) ?_ | refine onB_f (by with_reducible assumption) ?_) <;> (conv => whnf))
    exact ret_now _ rfl
  | some x =>
    rw [hc] at hS
    refine Pure.ev Tryz.f27 mx Tryz.func27 (by kernel_rfl) rfl rfl rfl ?_ <;> (conv => whnf) <;> repeat ((first | refine SeqW.go ?_ | refine And.intro trivial ?_ | refine And.intro (And.intro (Nat.le_of_ble_eq_true rfl) (Nat.le_of_ble_eq_true rfl)) ?_ | refine And.intro (And.intro (Nat.le_of_ble_eq_true rfl) (oneRows_of rfl)) ?_ | refine And.intro (And.intro (Nat.eq_of_beq_eq_true rfl) (And.intro (oneRows_of rfl) (Nat.le_of_ble_eq_true rfl))) ?_ | refine And.intro (Nat.le_of_ble_eq_true rfl) ?_ | refine And.intro (And.intro (by omega) (by omega)) ?_ | refine And.intro (by omega) ?_ | refine And.intro (And.intro (by decide) (by decide)) ?_ | intro _ | refine And.intro rfl ?_ | refine onB_t (by with_reducible assumption) ?_ | refine onB_f (by with_reducible assumption) ?_) <;> (conv => whnf))
    (first | refine Pure.call (hS) ?_ | refine ⟨_, hS, ?_⟩) <;> (conv => whnf) <;> repeat ((first | refine SeqW.go ?_ | refine And.intro trivial ?_ | refine And.intro (And.intro (Nat.le_of_ble_eq_true rfl) (Nat.le_of_ble_eq_true rfl)) ?_ | refine And.intro (And.intro (Nat.le_of_ble_eq_true rfl) (oneRows_of rfl)) ?_ | refine And.intro (And.intro (Nat.eq_of_beq_eq_true rfl) (And.intro (oneRows_of rfl) (Nat.le_of_ble_eq_true rfl))) ?_ | refine And.intro (Nat.le_of_ble_eq_true rfl) ?_ | refine And.intro (And.intro (by omega) (by omega)) ?_ | refine And.intro (by omega) ?_ | refine And.intro (And.intro (by decide) (by decide)) ?_ | intro _ | refine And.intro rfl ?_ | refine onB_t (by with_reducible assumption) ?_ | refine onB_f (by with_reducible assumption) ?_) <;> (conv => whnf))
    (first | refine Pure.call (fits09_p x c.cap) ?_ | refine ⟨_, fits09_p x c.cap, ?_⟩) <;> (conv => whnf) <;> repeat ((first | refine SeqW.go ?_ | refine And.intro trivial ?_ | refine And.intro (And.intro (Nat.le_of_ble_eq_true rfl) (Nat.le_of_ble_eq_true rfl)) ?_ | refine And.intro (And.intro (Nat.le_of_ble_eq_true rfl) (oneRows_of rfl)) ?_ | refine And.intro (And.intro (Nat.eq_of_beq_eq_true rfl) (And.intro (oneRows_of rfl) (Nat.le_of_ble_eq_true rfl))) ?_ | refine And.intro (Nat.le_of_ble_eq_true rfl) ?_ | refine And.intro (And.intro (by omega) (by omega)) ?_ | refine And.intro (by omega) ?_ | refine And.intro (And.intro (by decide) (by decide)) ?_ | intro _ | refine And.intro rfl ?_ | refine onB_t (by with_reducible assumption) ?_ | refine onB_f (by with_reducible assumption) ?_) <;> (conv => whnf))
    by_cases hle : x.le c.cap
    case neg =>
      rw [decide_eq_false hle]
      (conv => whnf) <;> repeat ((first | refine SeqW.go ?_ | refine And.intro trivial ?_ | refine And.intro (And.intro (Nat.le_of_ble_eq_true rfl) (Nat.le_of_ble_eq_true rfl)) ?_ | refine And.intro (And.intro (Nat.le_of_ble_eq_true rfl) (oneRows_of rfl)) ?_ | refine And.intro (And.intro (Nat.eq_of_beq_eq_true rfl) (And.intro (oneRows_of rfl) (Nat.le_of_ble_eq_true rfl))) ?_ | refine And.intro (Nat.le_of_ble_eq_true rfl) ?_ | refine And.intro (And.intro (by omega) (by omega)) ?_ | refine And.intro (by omega) ?_ | refine And.intro (And.intro (by decide) (by decide)) ?_ | intro _ | refine And.intro rfl ?_ | refine onB_t (by with_reducible assumption) ?_ | refine onB_f (by with_reducible assumption) ?_) <;> (conv => whnf))
      exact ret_now _ (congrArg B (by simp [hle]))
    rw [decide_eq_true hle]
    (conv => whnf) <;> repeat ((first | refine SeqW.go ?_ | refine And.intro trivial ?_ | refine And.intro (And.intro (Nat.le_of_ble_eq_true rfl) (Nat.le_of_ble_eq_true rfl)) ?_ | refine And.intro (And.intro (Nat.le_of_ble_eq_true rfl) (oneRows_of rfl)) ?_ | refine And.intro (And.intro (Nat.eq_of_beq_eq_true rfl) (And.intro (oneRows_of rfl) (Nat.le_of_ble_eq_true rfl))) ?_ | refine And.intro (Nat.le_of_ble_eq_true rfl) ?_ | refine And.intro (And.intro (by omega) (by omega)) ?_ | refine And.intro (by omega) ?_ | refine And.intro (And.intro (by decide) (by decide)) ?_ | intro _ | refine And.intro rfl ?_ | refine onB_t (by with_reducible assumption) ?_ | refine onB_f (by with_reducible assumption) ?_) <;> (conv => whnf))
    refine loop_st (S := Nat) (fun i => [(2, slIs p), (9, I i)]) (fun _ => ⟨2, []⟩) (fun i => i ≤ p.length ∧ ∀ m j, j < m → m < i → meetF (p.getD m []) (p.getD j []) = []) (fun i => p.length - i) 0
      (Wk.cut rfl ⟨⟨rfl, rfl⟩, ⟨rfl, rfl⟩, trivial⟩ trivial) ⟨Nat.zero_le _, fun m j _ h => absurd h (Nat.not_lt_zero _)⟩ ?_
    rintro i ⟨hi, hI⟩
    (conv => whnf) <;> repeat ((first | refine SeqW.go ?_ | refine And.intro trivial ?_ | refine And.intro (And.intro (Nat.le_of_ble_eq_true rfl) (Nat.le_of_ble_eq_true rfl)) ?_ | refine And.intro (And.intro (Nat.le_of_ble_eq_true rfl) (oneRows_of rfl)) ?_ | refine And.intro (And.intro (Nat.eq_of_beq_eq_true rfl) (And.intro (oneRows_of rfl) (Nat.le_of_ble_eq_true rfl))) ?_ | refine And.intro (Nat.le_of_ble_eq_true rfl) ?_ | refine And.intro (And.intro (by omega) (by omega)) ?_ | refine And.intro (by omega) ?_ | refine And.intro (And.intro (by decide) (by decide)) ?_ | intro _ | refine And.intro rfl ?_ | refine onB_t (by with_reducible assumption) ?_ | refine onB_f (by with_reducible assumption) ?_) <;> (conv => whnf))
    (refine onB_mk (fun hr => ?_) (fun hr => ?_) <;> (have h := hr) <;> (try simp [-List.getD_eq_getElem?_getD, wl, List.getD_cons_zero, List.getD_cons_succ] at h) <;> (conv => whnf) <;> repeat ((first | refine SeqW.go ?_ | refine And.intro trivial ?_ | refine And.intro (And.intro (Nat.le_of_ble_eq_true rfl) (Nat.le_of_ble_eq_true rfl)) ?_ | refine And.intro (And.intro (Nat.le_of_ble_eq_true rfl) (oneRows_of rfl)) ?_ | refine And.intro (And.intro (Nat.eq_of_beq_eq_true rfl) (And.intro (oneRows_of rfl) (Nat.le_of_ble_eq_true rfl))) ?_ | refine And.intro (Nat.le_of_ble_eq_true rfl) ?_ | refine And.intro (And.intro (by omega) (by omega)) ?_ | refine And.intro (by omega) ?_ | refine And.intro (And.intro (by decide) (by decide)) ?_ | intro _ | refine And.intro rfl ?_ | refine onB_t (by with_reducible assumption) ?_ | refine onB_f (by with_reducible assumption) ?_) <;> (conv => whnf)))
    · have hi2 : i < p.length := h
      refine loop_st (S := Nat) (fun j => [(2, slIs p), (9, I i), (10, I j)]) (fun _ => ⟨2, []⟩) (fun j => j ≤ i ∧ ∀ m, m < j → meetF (p.getD i []) (p.getD m []) = []) (fun j => i - j) 0
        (Wk.cut rfl ⟨⟨rfl, rfl⟩, ⟨rfl, rfl⟩, ⟨rfl, rfl⟩, trivial⟩ trivial) ⟨Nat.zero_le _, fun m h => absurd h (Nat.not_lt_zero _)⟩ ?_
      rintro j ⟨hj, hJ⟩
      (conv => whnf) <;> repeat ((first | refine SeqW.go ?_ | refine And.intro trivial ?_ | refine And.intro (And.intro (Nat.le_of_ble_eq_true rfl) (Nat.le_of_ble_eq_true rfl)) ?_ | refine And.intro (And.intro (Nat.le_of_ble_eq_true rfl) (oneRows_of rfl)) ?_ | refine And.intro (And.intro (Nat.eq_of_beq_eq_true rfl) (And.intro (oneRows_of rfl) (Nat.le_of_ble_eq_true rfl))) ?_ | refine And.intro (Nat.le_of_ble_eq_true rfl) ?_ | refine And.intro (And.intro (by omega) (by omega)) ?_ | refine And.intro (by omega) ?_ | refine And.intro (And.intro (by decide) (by decide)) ?_ | intro _ | refine And.intro rfl ?_ | refine onB_t (by with_reducible assumption) ?_ | refine onB_f (by with_reducible assumption) ?_) <;> (conv => whnf))
      (refine onB_mk (fun hr => ?_) (fun hr => ?_) <;> (have h := hr) <;> (try simp [-List.getD_eq_getElem?_getD, wl, List.getD_cons_zero, List.getD_cons_succ] at h) <;> (conv => whnf) <;> repeat ((first | refine SeqW.go ?_ | refine And.intro trivial ?_ | refine And.intro (And.intro (Nat.le_of_ble_eq_true rfl) (Nat.le_of_ble_eq_true rfl)) ?_ | refine And.intro (And.intro (Nat.le_of_ble_eq_true rfl) (oneRows_of rfl)) ?_ | refine And.intro (And.intro (Nat.eq_of_beq_eq_true rfl) (And.intro (oneRows_of rfl) (Nat.le_of_ble_eq_true rfl))) ?_ | refine And.intro (Nat.le_of_ble_eq_true rfl) ?_ | refine And.intro (And.intro (by omega) (by omega)) ?_ | refine And.intro (by omega) ?_ | refine And.intro (And.intro (by decide) (by decide)) ?_ | intro _ | refine And.intro rfl ?_ | refine onB_t (by with_reducible assumption) ?_ | refine onB_f (by with_reducible assumption) ?_) <;> (conv => whnf)))
      · have hj2 : j < i := h
        (first | refine Pure.call (refMeet_p (p.getD i []) (p.getD j []) (by have := hp i; omega)) ?_ | refine ⟨_, refMeet_p (p.getD i []) (p.getD j []) (by have := hp i; omega), ?_⟩) <;> (conv => whnf) <;> repeat ((first | refine SeqW.go ?_ | refine And.intro trivial ?_ | refine And.intro (And.intro (Nat.le_of_ble_eq_true rfl) (Nat.le_of_ble_eq_true rfl)) ?_ | refine And.intro (And.intro (Nat.le_of_ble_eq_true rfl) (oneRows_of rfl)) ?_ | refine And.intro (And.intro (Nat.eq_of_beq_eq_true rfl) (And.intro (oneRows_of rfl) (Nat.le_of_ble_eq_true rfl))) ?_ | refine And.intro (Nat.le_of_ble_eq_true rfl) ?_ | refine And.intro (And.intro (by omega) (by omega)) ?_ | refine And.intro (by omega) ?_ | refine And.intro (And.intro (by decide) (by decide)) ?_ | intro _ | refine And.intro rfl ?_ | refine onB_t (by with_reducible assumption) ?_ | refine onB_f (by with_reducible assumption) ?_) <;> (conv => whnf))
        (refine onB_mk (fun hr => ?_) (fun hr => ?_) <;> (have h := hr) <;> (try simp [-List.getD_eq_getElem?_getD, wl, List.getD_cons_zero, List.getD_cons_succ] at h) <;> (conv => whnf) <;> repeat ((first | refine SeqW.go ?_ | refine And.intro trivial ?_ | refine And.intro (And.intro (Nat.le_of_ble_eq_true rfl) (Nat.le_of_ble_eq_true rfl)) ?_ | refine And.intro (And.intro (Nat.le_of_ble_eq_true rfl) (oneRows_of rfl)) ?_ | refine And.intro (And.intro (Nat.eq_of_beq_eq_true rfl) (And.intro (oneRows_of rfl) (Nat.le_of_ble_eq_true rfl))) ?_ | refine And.intro (Nat.le_of_ble_eq_true rfl) ?_ | refine And.intro (And.intro (by omega) (by omega)) ?_ | refine And.intro (by omega) ?_ | refine And.intro (And.intro (by decide) (by decide)) ?_ | intro _ | refine And.intro rfl ?_ | refine onB_t (by with_reducible assumption) ?_ | refine onB_f (by with_reducible assumption) ?_) <;> (conv => whnf)))
        · refine ret_now _ (congrArg B ?_)
          have : ¬ pdis p := fun ho => by have := ho i j hj2 hi2; rw [this] at h; simp at h
          simp [pdisB, this]
        · have h0 : meetF (p.getD i []) (p.getD j []) = [] := by
            rcases List.eq_nil_or_concat (meetF (p.getD i []) (p.getD j [])) with e | ⟨a, b, e⟩
            · exact e
            · rw [e] at h; simp at h
          exact ⟨j + 1, by omega, ⟨by omega, fun m hm => by
            rcases Nat.lt_succ_iff_lt_or_eq.1 hm with h1 | rfl
            · exact hJ m h1
            · exact h0⟩, Wk.sub ⟨rfl, rfl, by simp only [← wrapS (show j < 9223372036854775807 by omega)]; rfl, trivial⟩⟩
      · have hji : j = i := by omega
        subst hji
        exact ⟨j + 1, by omega, ⟨by omega, fun m q hq hm => by
          rcases Nat.lt_succ_iff_lt_or_eq.1 hm with h1 | rfl
          · exact hI m q hq h1
          · exact hJ q hq⟩, Wk.sub ⟨rfl, by simp only [← wrapS (show j < 9223372036854775807 by omega)]; rfl, trivial⟩⟩
    · refine ret_now _ (congrArg B ?_)
      have : pdis p := fun m j hj hm => hI m j hj (by omega)
      simp [pdisB, this, hle]
theorem unionF_mem2 {a b : List Int} {x : Int} : x ∈ unionF [a, b] ↔ x ∈ a ∨ x ∈ b := by
  rw [mem_unionF]; simp
open Classical in
theorem apart_p (s : State) (hs : s.allocs.length ≤ 1000) (hp : ∀ i, i < s.allocs.length → (s.allocs.getD i default).spec.ports.length ≤ 1000)
    (hw : ∀ i, i < s.allocs.length → ∀ x ∈ (s.allocs.getD i default).spec.ports, (Lit.int .i64 x).wf = true) : Pure Tryz.prog 61 [s.av] (B (pdisB (usedP s.allocs))) := by
  refine Pure.ev Tryz.f61 mx Tryz.func61 (by kernel_rfl) rfl rfl rfl ?_ <;> (conv => whnf) <;> repeat ((first | refine SeqW.go ?_ | refine And.intro trivial ?_ | refine And.intro (And.intro (Nat.le_of_ble_eq_true rfl) (Nat.le_of_ble_eq_true rfl)) ?_ | refine And.intro (And.intro (Nat.le_of_ble_eq_true rfl) (oneRows_of rfl)) ?_ | refine And.intro (And.intro (Nat.eq_of_beq_eq_true rfl) (And.intro (oneRows_of rfl) (Nat.le_of_ble_eq_true rfl))) ?_ | refine And.intro (Nat.le_of_ble_eq_true rfl) ?_ | refine And.intro (And.intro (by omega) (by omega)) ?_ | refine And.intro (by omega) ?_ | refine And.intro (And.intro (by decide) (by decide)) ?_ | intro _ | refine And.intro rfl ?_ | refine onB_t (by with_reducible assumption) ?_ | refine onB_f (by with_reducible assumption) ?_) <;> (conv => whnf))
  refine loop_st (S := Nat × List Int) (fun z => [(3, slI z.2), (7, .sl 10 s.allocs.length fun i => Alloc.fv (s.allocs.getD i default)), (8, I s.allocs.length), (9, I z.1)]) (fun _ => ⟨1, []⟩)
    (fun z => z.1 ≤ s.allocs.length ∧ pdis (usedP (s.allocs.take z.1)) ∧ (∀ x, x ∈ z.2 ↔ ∃ l ∈ usedP (s.allocs.take z.1), x ∈ l) ∧ z.2.length ≤ z.1 * 1000 ∧ ∀ x ∈ z.2, (Lit.int .i64 x).wf = true) (fun z => s.allocs.length - z.1) (0, [])
    ((Wk.nil 3 1 (fun i => [.val (.int .i64 (([] : List Int).getD i 0))]) rfl).trans (Wk.cut rfl ⟨⟨rfl, rfl⟩, ⟨rfl, rfl⟩, ⟨rfl, rfl⟩, ⟨rfl, rfl⟩, trivial⟩ trivial)) ⟨Nat.zero_le _, pdis_nil, fun x => by simp [usedP, live], by simp, nofun⟩ ?_
  rintro ⟨k, u⟩ ⟨hk, hd, hu, hl, hwu⟩
  dsimp only at hk hd hu hl hwu
  (conv => whnf) <;> repeat ((first | refine SeqW.go ?_ | refine And.intro trivial ?_ | refine And.intro (And.intro (Nat.le_of_ble_eq_true rfl) (Nat.le_of_ble_eq_true rfl)) ?_ | refine And.intro (And.intro (Nat.le_of_ble_eq_true rfl) (oneRows_of rfl)) ?_ | refine And.intro (And.intro (Nat.eq_of_beq_eq_true rfl) (And.intro (oneRows_of rfl) (Nat.le_of_ble_eq_true rfl))) ?_ | refine And.intro (Nat.le_of_ble_eq_true rfl) ?_ | refine And.intro (And.intro (by omega) (by omega)) ?_ | refine And.intro (by omega) ?_ | refine And.intro (And.intro (by decide) (by decide)) ?_ | intro _ | refine And.intro rfl ?_ | refine onB_t (by with_reducible assumption) ?_ | refine onB_f (by with_reducible assumption) ?_) <;> (conv => whnf))
  (refine onB_mk (fun hr => ?_) (fun hr => ?_) <;> (have h := hr) <;> (try simp [-List.getD_eq_getElem?_getD, wl, List.getD_cons_zero, List.getD_cons_succ] at h) <;> (conv => whnf) <;> repeat ((first | refine SeqW.go ?_ | refine And.intro trivial ?_ | refine And.intro (And.intro (Nat.le_of_ble_eq_true rfl) (Nat.le_of_ble_eq_true rfl)) ?_ | refine And.intro (And.intro (Nat.le_of_ble_eq_true rfl) (oneRows_of rfl)) ?_ | refine And.intro (And.intro (Nat.eq_of_beq_eq_true rfl) (And.intro (oneRows_of rfl) (Nat.le_of_ble_eq_true rfl))) ?_ | refine And.intro (Nat.le_of_ble_eq_true rfl) ?_ | refine And.intro (And.intro (by omega) (by omega)) ?_ | refine And.intro (by omega) ?_ | refine And.intro (And.intro (by decide) (by decide)) ?_ | intro _ | refine And.intro rfl ?_ | refine onB_t (by with_reducible assumption) ?_ | refine onB_f (by with_reducible assumption) ?_) <;> (conv => whnf)))
  · have hk2 : k < s.allocs.length := h
    have hn : usedP (s.allocs.take (k + 1)) = if overB (s.allocs.getD k default) = true then usedP (s.allocs.take k) else usedP (s.allocs.take k) ++ [(s.allocs.getD k default).spec.ports] := by
      unfold usedP
      rw [takeS hk2, live_snoc]
      split <;> simp
    (first | refine Pure.call (stateOver_p (s.allocs.getD k default)) ?_ | refine ⟨_, stateOver_p (s.allocs.getD k default), ?_⟩) <;> (conv => whnf) <;> repeat ((first | refine SeqW.go ?_ | refine And.intro trivial ?_ | refine And.intro (And.intro (Nat.le_of_ble_eq_true rfl) (Nat.le_of_ble_eq_true rfl)) ?_ | refine And.intro (And.intro (Nat.le_of_ble_eq_true rfl) (oneRows_of rfl)) ?_ | refine And.intro (And.intro (Nat.eq_of_beq_eq_true rfl) (And.intro (oneRows_of rfl) (Nat.le_of_ble_eq_true rfl))) ?_ | refine And.intro (Nat.le_of_ble_eq_true rfl) ?_ | refine And.intro (And.intro (by omega) (by omega)) ?_ | refine And.intro (by omega) ?_ | refine And.intro (And.intro (by decide) (by decide)) ?_ | intro _ | refine And.intro rfl ?_ | refine onB_t (by with_reducible assumption) ?_ | refine onB_f (by with_reducible assumption) ?_) <;> (conv => whnf))
    cases ho : overB (s.allocs.getD k default)
    · rw [ho, if_neg (by simp)] at hn
      have hpk := hp k hk2
      have hwk := hw k hk2
      (conv => whnf) <;> repeat ((first | refine SeqW.go ?_ | refine And.intro trivial ?_ | refine And.intro (And.intro (Nat.le_of_ble_eq_true rfl) (Nat.le_of_ble_eq_true rfl)) ?_ | refine And.intro (And.intro (Nat.le_of_ble_eq_true rfl) (oneRows_of rfl)) ?_ | refine And.intro (And.intro (Nat.eq_of_beq_eq_true rfl) (And.intro (oneRows_of rfl) (Nat.le_of_ble_eq_true rfl))) ?_ | refine And.intro (Nat.le_of_ble_eq_true rfl) ?_ | refine And.intro (And.intro (by omega) (by omega)) ?_ | refine And.intro (by omega) ?_ | refine And.intro (And.intro (by decide) (by decide)) ?_ | intro _ | refine And.intro rfl ?_ | refine onB_t (by with_reducible assumption) ?_ | refine onB_f (by with_reducible assumption) ?_) <;> (conv => whnf))
      (first | refine Pure.call (meet_p u (s.allocs.getD k default).spec.ports (by omega) (by omega) hwu hwk) ?_ | refine ⟨_, meet_p u (s.allocs.getD k default).spec.ports (by omega) (by omega) hwu hwk, ?_⟩) <;> (conv => whnf) <;> repeat ((first | refine SeqW.go ?_ | refine And.intro trivial ?_ | refine And.intro (And.intro (Nat.le_of_ble_eq_true rfl) (Nat.le_of_ble_eq_true rfl)) ?_ | refine And.intro (And.intro (Nat.le_of_ble_eq_true rfl) (oneRows_of rfl)) ?_ | refine And.intro (And.intro (Nat.eq_of_beq_eq_true rfl) (And.intro (oneRows_of rfl) (Nat.le_of_ble_eq_true rfl))) ?_ | refine And.intro (Nat.le_of_ble_eq_true rfl) ?_ | refine And.intro (And.intro (by omega) (by omega)) ?_ | refine And.intro (by omega) ?_ | refine And.intro (And.intro (by decide) (by decide)) ?_ | intro _ | refine And.intro rfl ?_ | refine onB_t (by with_reducible assumption) ?_ | refine onB_f (by with_reducible assumption) ?_) <;> (conv => whnf))
      have hkey : meetF u (s.allocs.getD k default).spec.ports = [] ↔ ∀ y ∈ usedP (s.allocs.take k), meetF (s.allocs.getD k default).spec.ports y = [] := by
        rw [meet_nil]
        constructor
        · intro h y hy
          rw [meet_nil]
          intro x hx hxy
          exact h x ((hu x).2 ⟨y, hy, hxy⟩) hx
        · intro h x hx hxp
          obtain ⟨y, hy, hxy⟩ := (hu x).1 hx
          exact meet_nil.1 (h y hy) x hxp hxy
      (refine onB_mk (fun hr => ?_) (fun hr => ?_) <;> (have h := hr) <;> (try simp [-List.getD_eq_getElem?_getD, wl, List.getD_cons_zero, List.getD_cons_succ] at h) <;> (conv => whnf) <;> repeat ((first | refine SeqW.go ?_ | refine And.intro trivial ?_ | refine And.intro (And.intro (Nat.le_of_ble_eq_true rfl) (Nat.le_of_ble_eq_true rfl)) ?_ | refine And.intro (And.intro (Nat.le_of_ble_eq_true rfl) (oneRows_of rfl)) ?_ | refine And.intro (And.intro (Nat.eq_of_beq_eq_true rfl) (And.intro (oneRows_of rfl) (Nat.le_of_ble_eq_true rfl))) ?_ | refine And.intro (Nat.le_of_ble_eq_true rfl) ?_ | refine And.intro (And.intro (by omega) (by omega)) ?_ | refine And.intro (by omega) ?_ | refine And.intro (And.intro (by decide) (by decide)) ?_ | intro _ | refine And.intro rfl ?_ | refine onB_t (by with_reducible assumption) ?_ | refine onB_f (by with_reducible assumption) ?_) <;> (conv => whnf)))
      · refine ret_now _ (congrArg B ?_)
        have : ¬ pdis (usedP s.allocs) := fun hall => by
          have h1 : usedP s.allocs = usedP (s.allocs.take (k + 1)) ++ usedP (s.allocs.drop (k + 1)) := by
            unfold usedP live
            rw [← List.map_append, ← List.filter_append, List.take_append_drop]
          have h2 : pdis (usedP (s.allocs.take (k + 1))) := fun i j hj hi => by
            have := hall i j hj (by rw [h1]; simp; omega)
            rw [h1] at this
            simpa [List.getD_eq_getElem?_getD, List.getElem?_append_left hi, List.getElem?_append_left (show j < (usedP (s.allocs.take (k + 1))).length by omega)] using this
          rw [hn, pdis_snoc] at h2
          have h3 := hkey.2 h2.2
          rw [h3] at h
          simp at h
        simp [pdisB, this]
      · have h0 : meetF u (s.allocs.getD k default).spec.ports = [] := by
          rcases List.eq_nil_or_concat (meetF u (s.allocs.getD k default).spec.ports) with e | ⟨a, b, e⟩
          · exact e
          · rw [e] at h; simp at h
        refine Pure.fz1 (union2_p u (s.allocs.getD k default).spec.ports (by omega) hwu hwk) rfl rfl (fun i hi => ?_) ?_
        · match i, hi with
          | 0, _ => rfl
          | 1, _ => rfl
        (conv => whnf) <;> repeat ((first | refine SeqW.go ?_ | refine And.intro trivial ?_ | refine And.intro (And.intro (Nat.le_of_ble_eq_true rfl) (Nat.le_of_ble_eq_true rfl)) ?_ | refine And.intro (And.intro (Nat.le_of_ble_eq_true rfl) (oneRows_of rfl)) ?_ | refine And.intro (And.intro (Nat.eq_of_beq_eq_true rfl) (And.intro (oneRows_of rfl) (Nat.le_of_ble_eq_true rfl))) ?_ | refine And.intro (Nat.le_of_ble_eq_true rfl) ?_ | refine And.intro (And.intro (by omega) (by omega)) ?_ | refine And.intro (by omega) ?_ | refine And.intro (And.intro (by decide) (by decide)) ?_ | intro _ | refine And.intro rfl ?_ | refine onB_t (by with_reducible assumption) ?_ | refine onB_f (by with_reducible assumption) ?_) <;> (conv => whnf))
        have hlen := unionF_length [u, (s.allocs.getD k default).spec.ports]
        refine ⟨(k + 1, unionF [u, (s.allocs.getD k default).spec.ports]), by dsimp only; omega, ⟨by dsimp only; omega, ?_, fun x => ?_, ?_, fun x hx => ?_⟩, Wk.cut rfl ⟨⟨rfl, rfl⟩, ⟨rfl, rfl⟩, ⟨rfl, rfl⟩, ⟨by simp only [← wrapS (show k < 9223372036854775807 by omega)]; rfl, rfl⟩, trivial⟩ trivial⟩
        · dsimp only; rw [hn, pdis_snoc]; exact ⟨hd, hkey.1 h0⟩
        · dsimp only; rw [hn, unionF_mem2, hu]; simp only [List.mem_append, List.mem_singleton]
          constructor
          · rintro (⟨l, h1, h2⟩ | h1)
            · exact ⟨l, .inl h1, h2⟩
            · exact ⟨_, .inr rfl, h1⟩
          · rintro ⟨l, h1 | rfl, h2⟩
            · exact .inl ⟨l, h1, h2⟩
            · exact .inr h2
        · dsimp only; simp only [List.flatten_cons, List.flatten_nil, List.append_nil, List.length_append] at hlen; omega
        · rcases unionF_mem2.1 hx with h1 | h1
          · exact hwu x h1
          · exact hwk x h1
    · rw [ho, if_pos rfl] at hn
      (conv => whnf) <;> repeat ((first | refine SeqW.go ?_ | refine And.intro trivial ?_ | refine And.intro (And.intro (Nat.le_of_ble_eq_true rfl) (Nat.le_of_ble_eq_true rfl)) ?_ | refine And.intro (And.intro (Nat.le_of_ble_eq_true rfl) (oneRows_of rfl)) ?_ | refine And.intro (And.intro (Nat.eq_of_beq_eq_true rfl) (And.intro (oneRows_of rfl) (Nat.le_of_ble_eq_true rfl))) ?_ | refine And.intro (Nat.le_of_ble_eq_true rfl) ?_ | refine And.intro (And.intro (by omega) (by omega)) ?_ | refine And.intro (by omega) ?_ | refine And.intro (And.intro (by decide) (by decide)) ?_ | intro _ | refine And.intro rfl ?_ | refine onB_t (by with_reducible assumption) ?_ | refine onB_f (by with_reducible assumption) ?_) <;> (conv => whnf))
      exact ⟨(k + 1, u), by dsimp only; omega, ⟨by dsimp only; omega, by dsimp only; rw [hn]; exact hd, fun x => by dsimp only; rw [hn]; exact hu x, by dsimp only; omega, hwu⟩, Wk.cut rfl ⟨⟨rfl, rfl⟩, ⟨rfl, rfl⟩, ⟨rfl, rfl⟩, ⟨by simp only [← wrapS (show k < 9223372036854775807 by omega)]; rfl, rfl⟩, trivial⟩ trivial⟩
  · have hkl : k = s.allocs.length := by omega
    subst hkl
    rw [List.take_length] at hd
    exact ret_now _ (congrArg B (by simp [pdisB, hd]))
end Go.Proofs.YtajpldeffhagaaaGreat
