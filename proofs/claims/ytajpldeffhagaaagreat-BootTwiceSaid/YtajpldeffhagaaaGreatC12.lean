/- The reference: no two allocations have something in common. -/
import Derived.Test.YtajpldeffhagaaaGreatC11
namespace Go.Proofs.YtajpldeffhagaaaGreat
open Go.RowKit E
set_option maxRecDepth 100000
set_option linter.unusedVariables false
set_option linter.unusedSimpArgs false
abbrev rowsI (L : List Int) : List (List AV) := L.map fun x => [I x]
theorem freeI {L : List Int} : ∀ row ∈ rowsI L, freeL row = true := fun row h => by
  obtain ⟨x, _, rfl⟩ := List.mem_map.1 h
  rfl
theorem rowsI_at {L : List Int} {n : Nat} (h : n < L.length) : (rowsI L)[0 + ((n : Int)).toNat]? = some [I (L.getD n 0)] := by
  simp [rowsI, List.getD_eq_getElem?_getD, h]
abbrev frA (i : Nat) (L : List Int) : Fr := [(1, .hptr 0 5 0 0), (3, .hsl 1 1 0 L.length L.length false), (4, I i)]
abbrev hpA (s : State) (L : List Int) : Hp := ⟨2, [(1, some ⟨1, rowsI L, none⟩), (0, some ⟨5, [s.fv.map FV.up], none⟩)]⟩
abbrev hpB (s : State) (L : List Int) (a : Alloc) : Hp := ⟨3, [(2, some ⟨10, [a.fv.map FV.up], none⟩), (1, some ⟨1, rowsI L, none⟩), (0, some ⟨5, [s.fv.map FV.up], none⟩)]⟩
theorem incsA_le (a : Alloc) (k : Nat) : (incsA a k).length ≤ a.tasks.length := by
  unfold incsA
  refine Nat.le_trans (List.length_filter_le _ _) ?_
  simp; omega
theorem incsL_len (l : List Alloc) (h : ∀ a ∈ l, a.tasks.length ≤ 1000) : (incsL l).length ≤ l.length * 1000 := by
  unfold incsL
  induction l with
  | nil => simp
  | cons a l ih =>
    have h1 := ih fun b hb => h b (List.mem_cons_of_mem _ hb)
    have h2 := h a (List.mem_cons_self ..)
    have h3 := incsA_le a a.tasks.length
    simp only [List.map_cons, List.flatten_cons, List.length_append, List.length_cons]
    omega
open Classical in
set_option maxHeartbeats 4000000 in
theorem refApart_p (s : State) (hn : s.allocs.length ≤ 1000) (ht : ∀ i, (s.allocs.getD i default).tasks.length ≤ 1000) : Pure Tryz.prog 24 [s.av] (B (decide (apartOk s))) := by
  have hlen : ∀ i, i ≤ s.allocs.length → (incsL (s.allocs.take i)).length ≤ 1000000 := fun i hi => by
    have := incsL_len (s.allocs.take i) fun a ha => by
      obtain ⟨j, hj, rfl⟩ := List.getElem_of_mem (List.mem_of_mem_take ha)
      have := ht j
      simpa [List.getD_eq_getElem?_getD, hj] using this
    simp at this
    omega
  refine Pure.ev Tryz.f24 mx Tryz.func24 (by kernel_rfl) rfl rfl rfl ?_ <;> (conv => whnf) <;> repeat (first | (refine And.intro trivial ?_ <;> (conv => whnf)) | (refine And.intro (And.intro (Nat.le_of_ble_eq_true rfl) (Nat.le_of_ble_eq_true rfl)) ?_ <;> (conv => whnf)) | (refine And.intro (And.intro (Nat.le_of_ble_eq_true rfl) (oneRows_of rfl)) ?_ <;> (conv => whnf)) | (refine And.intro (And.intro (Nat.eq_of_beq_eq_true rfl) (And.intro (oneRows_of rfl) (Nat.le_of_ble_eq_true rfl))) ?_ <;> (conv => whnf)) | (refine And.intro (Nat.le_of_ble_eq_true rfl) ?_ <;> (conv => whnf)) | (refine And.intro (And.intro (by omega) (by omega)) ?_ <;> (conv => whnf)) | (refine And.intro (by omega) ?_ <;> (conv => whnf)) | (refine And.intro (And.intro (by decide) (by decide)) ?_ <;> (conv => whnf)) | (intro _ <;> (conv => whnf)) | (refine And.intro rfl ?_ <;> (conv => whnf)) | (refine onB_t (by with_reducible assumption) ?_ <;> (conv => whnf)) | (refine onB_f (by with_reducible assumption) ?_ <;> (conv => whnf)))
  refine loop_st (S := Nat) (fun i => frA i (incsL (s.allocs.take i))) (fun i => hpA s (incsL (s.allocs.take i)))
    (fun i => i ≤ s.allocs.length ∧ (∀ m, m < i → ∀ k, k < m → pairOk s m k) ∧ (incsL (s.allocs.take i)).Nodup) (fun i => s.allocs.length - i) 0
    ((Wk.phantom 3 1 rfl).trans (Wk.cut rfl ⟨⟨rfl, rfl⟩, ⟨rfl, rfl⟩, ⟨rfl, rfl⟩, trivial⟩ ⟨⟨rfl, rfl, nofun, nofun⟩, ⟨rfl, rfl, row1 rfl, nofun⟩, trivial⟩)) ⟨Nat.zero_le _, fun m hm => absurd hm (Nat.not_lt_zero m), List.nodup_nil⟩ ?_
  rintro i ⟨hi, hP, hN⟩
  have hL := hlen i hi
  generalize hLe : incsL (s.allocs.take i) = L at hN hL ⊢
  (conv => whnf) <;> repeat (first | (refine And.intro trivial ?_ <;> (conv => whnf)) | (refine And.intro (And.intro (Nat.le_of_ble_eq_true rfl) (Nat.le_of_ble_eq_true rfl)) ?_ <;> (conv => whnf)) | (refine And.intro (And.intro (Nat.le_of_ble_eq_true rfl) (oneRows_of rfl)) ?_ <;> (conv => whnf)) | (refine And.intro (And.intro (Nat.eq_of_beq_eq_true rfl) (And.intro (oneRows_of rfl) (Nat.le_of_ble_eq_true rfl))) ?_ <;> (conv => whnf)) | (refine And.intro (Nat.le_of_ble_eq_true rfl) ?_ <;> (conv => whnf)) | (refine And.intro (And.intro (by omega) (by omega)) ?_ <;> (conv => whnf)) | (refine And.intro (by omega) ?_ <;> (conv => whnf)) | (refine And.intro (And.intro (by decide) (by decide)) ?_ <;> (conv => whnf)) | (intro _ <;> (conv => whnf)) | (refine And.intro rfl ?_ <;> (conv => whnf)) | (refine onB_t (by with_reducible assumption) ?_ <;> (conv => whnf)) | (refine onB_f (by with_reducible assumption) ?_ <;> (conv => whnf)))
  (refine onB_mk (fun hr => ?_) (fun hr => ?_) <;> (have h := hr) <;> (try simp [-List.getD_eq_getElem?_getD, wl, List.getD_cons_zero, List.getD_cons_succ] at h) <;> (conv => whnf) <;> repeat (first | (refine And.intro trivial ?_ <;> (conv => whnf)) | (refine And.intro (And.intro (Nat.le_of_ble_eq_true rfl) (Nat.le_of_ble_eq_true rfl)) ?_ <;> (conv => whnf)) | (refine And.intro (And.intro (Nat.le_of_ble_eq_true rfl) (oneRows_of rfl)) ?_ <;> (conv => whnf)) | (refine And.intro (And.intro (Nat.eq_of_beq_eq_true rfl) (And.intro (oneRows_of rfl) (Nat.le_of_ble_eq_true rfl))) ?_ <;> (conv => whnf)) | (refine And.intro (Nat.le_of_ble_eq_true rfl) ?_ <;> (conv => whnf)) | (refine And.intro (And.intro (by omega) (by omega)) ?_ <;> (conv => whnf)) | (refine And.intro (by omega) ?_ <;> (conv => whnf)) | (refine And.intro (And.intro (by decide) (by decide)) ?_ <;> (conv => whnf)) | (intro _ <;> (conv => whnf)) | (refine And.intro rfl ?_ <;> (conv => whnf)) | (refine onB_t (by with_reducible assumption) ?_ <;> (conv => whnf)) | (refine onB_f (by with_reducible assumption) ?_ <;> (conv => whnf))))
  · have hi2 : i < s.allocs.length := h
    -- the allocations ahead
    refine loop_st (S := Nat) (fun k => (5, .hptr 2 10 0 0) :: (6, I k) :: frA i L) (fun _ => hpB s L (s.allocs.getD i default)) (fun k => k ≤ i ∧ ∀ m, m < k → pairOk s i m) (fun k => i - k) 0
      (Wk.cut rfl ⟨⟨rfl, rfl⟩, ⟨rfl, rfl⟩, ⟨rfl, rfl⟩, ⟨rfl, rfl⟩, ⟨rfl, rfl⟩, trivial⟩ ⟨⟨rfl, rfl, row1 rfl, nofun⟩, ⟨rfl, rfl, bd_rows freeI, nofun⟩, ⟨rfl, rfl, row1 rfl, nofun⟩, trivial⟩) ⟨Nat.zero_le _, fun m hm => absurd hm (Nat.not_lt_zero m)⟩ ?_
    rintro k ⟨hk, hQ⟩
    (conv => whnf) <;> repeat (first | (refine And.intro trivial ?_ <;> (conv => whnf)) | (refine And.intro (And.intro (Nat.le_of_ble_eq_true rfl) (Nat.le_of_ble_eq_true rfl)) ?_ <;> (conv => whnf)) | (refine And.intro (And.intro (Nat.le_of_ble_eq_true rfl) (oneRows_of rfl)) ?_ <;> (conv => whnf)) | (refine And.intro (And.intro (Nat.eq_of_beq_eq_true rfl) (And.intro (oneRows_of rfl) (Nat.le_of_ble_eq_true rfl))) ?_ <;> (conv => whnf)) | (refine And.intro (Nat.le_of_ble_eq_true rfl) ?_ <;> (conv => whnf)) | (refine And.intro (And.intro (by omega) (by omega)) ?_ <;> (conv => whnf)) | (refine And.intro (by omega) ?_ <;> (conv => whnf)) | (refine And.intro (And.intro (by decide) (by decide)) ?_ <;> (conv => whnf)) | (intro _ <;> (conv => whnf)) | (refine And.intro rfl ?_ <;> (conv => whnf)) | (refine onB_t (by with_reducible assumption) ?_ <;> (conv => whnf)) | (refine onB_f (by with_reducible assumption) ?_ <;> (conv => whnf)))
    (refine onB_mk (fun hr => ?_) (fun hr => ?_) <;> (have h := hr) <;> (try simp [-List.getD_eq_getElem?_getD, wl, List.getD_cons_zero, List.getD_cons_succ] at h) <;> (conv => whnf) <;> repeat (first | (refine And.intro trivial ?_ <;> (conv => whnf)) | (refine And.intro (And.intro (Nat.le_of_ble_eq_true rfl) (Nat.le_of_ble_eq_true rfl)) ?_ <;> (conv => whnf)) | (refine And.intro (And.intro (Nat.le_of_ble_eq_true rfl) (oneRows_of rfl)) ?_ <;> (conv => whnf)) | (refine And.intro (And.intro (Nat.eq_of_beq_eq_true rfl) (And.intro (oneRows_of rfl) (Nat.le_of_ble_eq_true rfl))) ?_ <;> (conv => whnf)) | (refine And.intro (Nat.le_of_ble_eq_true rfl) ?_ <;> (conv => whnf)) | (refine And.intro (And.intro (by omega) (by omega)) ?_ <;> (conv => whnf)) | (refine And.intro (by omega) ?_ <;> (conv => whnf)) | (refine And.intro (And.intro (by decide) (by decide)) ?_ <;> (conv => whnf)) | (intro _ <;> (conv => whnf)) | (refine And.intro rfl ?_ <;> (conv => whnf)) | (refine onB_t (by with_reducible assumption) ?_ <;> (conv => whnf)) | (refine onB_f (by with_reducible assumption) ?_ <;> (conv => whnf))))
    · have hk2 : k < i := h
      repeat' ((refine onB_mk (fun hr => ?_) (fun hr => ?_) <;> (have h := hr) <;> (try simp [-List.getD_eq_getElem?_getD, wl, List.getD_cons_zero, List.getD_cons_succ] at h) <;> (conv => whnf) <;> repeat (first | (refine And.intro trivial ?_ <;> (conv => whnf)) | (refine And.intro (And.intro (Nat.le_of_ble_eq_true rfl) (Nat.le_of_ble_eq_true rfl)) ?_ <;> (conv => whnf)) | (refine And.intro (And.intro (Nat.le_of_ble_eq_true rfl) (oneRows_of rfl)) ?_ <;> (conv => whnf)) | (refine And.intro (And.intro (Nat.eq_of_beq_eq_true rfl) (And.intro (oneRows_of rfl) (Nat.le_of_ble_eq_true rfl))) ?_ <;> (conv => whnf)) | (refine And.intro (Nat.le_of_ble_eq_true rfl) ?_ <;> (conv => whnf)) | (refine And.intro (And.intro (by omega) (by omega)) ?_ <;> (conv => whnf)) | (refine And.intro (by omega) ?_ <;> (conv => whnf)) | (refine And.intro (And.intro (by decide) (by decide)) ?_ <;> (conv => whnf)) | (intro _ <;> (conv => whnf)) | (refine And.intro rfl ?_ <;> (conv => whnf)) | (refine onB_t (by with_reducible assumption) ?_ <;> (conv => whnf)) | (refine onB_f (by with_reducible assumption) ?_ <;> (conv => whnf)))))
      all_goals first
        | exact ret_now _ (by_f fun ho => by have := ho.1 i hi2 k hk2; unfold pairOk at this; omega)
        | exact ⟨k + 1, by omega, ⟨by omega, fun m hm => by
            rcases Nat.lt_succ_iff_lt_or_eq.1 hm with h1 | h1
            · exact hQ m h1
            · rw [h1]; unfold pairOk; omega⟩, Wk.cut rfl ⟨⟨rfl, rfl⟩, ⟨by simp only [← wrapS (show k < 9223372036854775807 by omega)]; rfl, rfl⟩, ⟨rfl, rfl⟩, ⟨rfl, rfl⟩, ⟨rfl, rfl⟩, trivial⟩ ⟨⟨rfl, rfl, row1 rfl, nofun⟩, ⟨rfl, rfl, bd_rows freeI, nofun⟩, ⟨rfl, rfl, row1 rfl, nofun⟩, trivial⟩⟩
    · have hki : k = i := by omega
      subst hki
      -- the tasks
      refine loop_st (S := Nat) (fun t => (5, .hptr 2 10 0 0) :: (7, I t) :: frA k (L ++ incsA (s.allocs.getD k default) t)) (fun t => hpB s (L ++ incsA (s.allocs.getD k default) t) (s.allocs.getD k default)) (fun t => t ≤ (s.allocs.getD k default).tasks.length ∧ (L ++ incsA (s.allocs.getD k default) t).Nodup) (fun t => (s.allocs.getD k default).tasks.length - t) 0
        (Wk.cut rfl ⟨⟨rfl, rfl⟩, ⟨rfl, rfl⟩, ⟨rfl, rfl⟩, ⟨by simp [incsA]; rfl, rfl⟩, ⟨rfl, rfl⟩, trivial⟩ ⟨⟨rfl, rfl, row1 rfl, nofun⟩, ⟨by simp [incsA]; rfl, rfl, bd_rows freeI, nofun⟩, ⟨rfl, rfl, row1 rfl, nofun⟩, trivial⟩) ⟨Nat.zero_le _, by simpa [incsA] using hN⟩ ?_
      rintro t ⟨htk, hD⟩
      have hL2 : (L ++ incsA (s.allocs.getD k default) t).length ≤ 1001000 := by
        have := incsA_le (s.allocs.getD k default) t
        have := ht k
        rw [List.length_append]; omega
      have hnd : (incsL s.allocs).Nodup → t < (s.allocs.getD k default).tasks.length → incT (s.allocs.getD k default) t ≠ 0 → incT (s.allocs.getD k default) t ∉ L ++ incsA (s.allocs.getD k default) t := fun h1 h2 h3 => by
        have := nodup_pre h1 hi2 h2 h3
        rwa [hLe] at this
      have hnz : ∀ x ∈ L ++ incsA (s.allocs.getD k default) t, x ≠ 0 := fun x hx => by
        rcases List.mem_append.1 hx with h1 | h1
        · rw [← hLe] at h1
          unfold incsL at h1
          obtain ⟨l, h2, h3⟩ := List.mem_flatten.1 h1
          obtain ⟨a, _, rfl⟩ := List.mem_map.1 h2
          simpa using (List.mem_filter.1 h3).2
        · simpa using (List.mem_filter.1 h1).2
      have hsucc : t < (s.allocs.getD k default).tasks.length → L ++ incsA (s.allocs.getD k default) (t + 1) = (L ++ incsA (s.allocs.getD k default) t) ++ (if incT (s.allocs.getD k default) t ≠ 0 then [incT (s.allocs.getD k default) t] else []) := fun h => by rw [incsA_succ h, List.append_assoc]
      generalize hMe : L ++ incsA (s.allocs.getD k default) t = M at hD hL2 hnd hnz hsucc ⊢
      (conv => whnf) <;> repeat (first | (refine And.intro trivial ?_ <;> (conv => whnf)) | (refine And.intro (And.intro (Nat.le_of_ble_eq_true rfl) (Nat.le_of_ble_eq_true rfl)) ?_ <;> (conv => whnf)) | (refine And.intro (And.intro (Nat.le_of_ble_eq_true rfl) (oneRows_of rfl)) ?_ <;> (conv => whnf)) | (refine And.intro (And.intro (Nat.eq_of_beq_eq_true rfl) (And.intro (oneRows_of rfl) (Nat.le_of_ble_eq_true rfl))) ?_ <;> (conv => whnf)) | (refine And.intro (Nat.le_of_ble_eq_true rfl) ?_ <;> (conv => whnf)) | (refine And.intro (And.intro (by omega) (by omega)) ?_ <;> (conv => whnf)) | (refine And.intro (by omega) ?_ <;> (conv => whnf)) | (refine And.intro (And.intro (by decide) (by decide)) ?_ <;> (conv => whnf)) | (intro _ <;> (conv => whnf)) | (refine And.intro rfl ?_ <;> (conv => whnf)) | (refine onB_t (by with_reducible assumption) ?_ <;> (conv => whnf)) | (refine onB_f (by with_reducible assumption) ?_ <;> (conv => whnf)))
      (refine onB_mk (fun hr => ?_) (fun hr => ?_) <;> (have h := hr) <;> (try simp [-List.getD_eq_getElem?_getD, wl, List.getD_cons_zero, List.getD_cons_succ] at h) <;> (conv => whnf) <;> repeat (first | (refine And.intro trivial ?_ <;> (conv => whnf)) | (refine And.intro (And.intro (Nat.le_of_ble_eq_true rfl) (Nat.le_of_ble_eq_true rfl)) ?_ <;> (conv => whnf)) | (refine And.intro (And.intro (Nat.le_of_ble_eq_true rfl) (oneRows_of rfl)) ?_ <;> (conv => whnf)) | (refine And.intro (And.intro (Nat.eq_of_beq_eq_true rfl) (And.intro (oneRows_of rfl) (Nat.le_of_ble_eq_true rfl))) ?_ <;> (conv => whnf)) | (refine And.intro (Nat.le_of_ble_eq_true rfl) ?_ <;> (conv => whnf)) | (refine And.intro (And.intro (by omega) (by omega)) ?_ <;> (conv => whnf)) | (refine And.intro (by omega) ?_ <;> (conv => whnf)) | (refine And.intro (And.intro (by decide) (by decide)) ?_ <;> (conv => whnf)) | (intro _ <;> (conv => whnf)) | (refine And.intro rfl ?_ <;> (conv => whnf)) | (refine onB_t (by with_reducible assumption) ?_ <;> (conv => whnf)) | (refine onB_f (by with_reducible assumption) ?_ <;> (conv => whnf))))
      · have ht2 : t < (s.allocs.getD k default).tasks.length := h
        refine loop_st (S := Nat) (fun n => (5, .hptr 2 10 0 0) :: (7, I t) :: (8, I n) :: frA k M) (fun _ => hpB s M (s.allocs.getD k default)) (fun n => n ≤ M.length ∧ ∀ m, m < n → M.getD m 0 ≠ incT (s.allocs.getD k default) t) (fun n => M.length - n) 0
          (Wk.cut rfl ⟨⟨rfl, rfl⟩, ⟨rfl, rfl⟩, ⟨rfl, rfl⟩, ⟨rfl, rfl⟩, ⟨rfl, rfl⟩, ⟨rfl, rfl⟩, trivial⟩ ⟨⟨rfl, rfl, row1 rfl, nofun⟩, ⟨rfl, rfl, bd_rows freeI, nofun⟩, ⟨rfl, rfl, row1 rfl, nofun⟩, trivial⟩) ⟨Nat.zero_le _, fun m hm => absurd hm (Nat.not_lt_zero m)⟩ ?_
        rintro n ⟨hn2, hM⟩
        (conv => whnf) <;> repeat (first | (refine And.intro trivial ?_ <;> (conv => whnf)) | (refine And.intro (And.intro (Nat.le_of_ble_eq_true rfl) (Nat.le_of_ble_eq_true rfl)) ?_ <;> (conv => whnf)) | (refine And.intro (And.intro (Nat.le_of_ble_eq_true rfl) (oneRows_of rfl)) ?_ <;> (conv => whnf)) | (refine And.intro (And.intro (Nat.eq_of_beq_eq_true rfl) (And.intro (oneRows_of rfl) (Nat.le_of_ble_eq_true rfl))) ?_ <;> (conv => whnf)) | (refine And.intro (Nat.le_of_ble_eq_true rfl) ?_ <;> (conv => whnf)) | (refine And.intro (And.intro (by omega) (by omega)) ?_ <;> (conv => whnf)) | (refine And.intro (by omega) ?_ <;> (conv => whnf)) | (refine And.intro (And.intro (by decide) (by decide)) ?_ <;> (conv => whnf)) | (intro _ <;> (conv => whnf)) | (refine And.intro rfl ?_ <;> (conv => whnf)) | (refine onB_t (by with_reducible assumption) ?_ <;> (conv => whnf)) | (refine onB_f (by with_reducible assumption) ?_ <;> (conv => whnf)))
        (refine onB_mk (fun hr => ?_) (fun hr => ?_) <;> (have h := hr) <;> (try simp [-List.getD_eq_getElem?_getD, wl, List.getD_cons_zero, List.getD_cons_succ] at h) <;> (conv => whnf) <;> repeat (first | (refine And.intro trivial ?_ <;> (conv => whnf)) | (refine And.intro (And.intro (Nat.le_of_ble_eq_true rfl) (Nat.le_of_ble_eq_true rfl)) ?_ <;> (conv => whnf)) | (refine And.intro (And.intro (Nat.le_of_ble_eq_true rfl) (oneRows_of rfl)) ?_ <;> (conv => whnf)) | (refine And.intro (And.intro (Nat.eq_of_beq_eq_true rfl) (And.intro (oneRows_of rfl) (Nat.le_of_ble_eq_true rfl))) ?_ <;> (conv => whnf)) | (refine And.intro (Nat.le_of_ble_eq_true rfl) ?_ <;> (conv => whnf)) | (refine And.intro (And.intro (by omega) (by omega)) ?_ <;> (conv => whnf)) | (refine And.intro (by omega) ?_ <;> (conv => whnf)) | (refine And.intro (And.intro (by decide) (by decide)) ?_ <;> (conv => whnf)) | (intro _ <;> (conv => whnf)) | (refine And.intro rfl ?_ <;> (conv => whnf)) | (refine onB_t (by with_reducible assumption) ?_ <;> (conv => whnf)) | (refine onB_f (by with_reducible assumption) ?_ <;> (conv => whnf))))
        · have hn3 : n < M.length := h
          rw [evN_load_own (row := [I (M.getD n 0)]) (y := I (M.getD n 0))]
          rotate_left 1
          · exact rfl
          · exact rfl
          · exact rfl
          · exact rowsI_at hn3
          · exact rfl
          · exact rfl
          (conv => whnf) <;> repeat (first | (refine And.intro trivial ?_ <;> (conv => whnf)) | (refine And.intro (And.intro (Nat.le_of_ble_eq_true rfl) (Nat.le_of_ble_eq_true rfl)) ?_ <;> (conv => whnf)) | (refine And.intro (And.intro (Nat.le_of_ble_eq_true rfl) (oneRows_of rfl)) ?_ <;> (conv => whnf)) | (refine And.intro (And.intro (Nat.eq_of_beq_eq_true rfl) (And.intro (oneRows_of rfl) (Nat.le_of_ble_eq_true rfl))) ?_ <;> (conv => whnf)) | (refine And.intro (Nat.le_of_ble_eq_true rfl) ?_ <;> (conv => whnf)) | (refine And.intro (And.intro (by omega) (by omega)) ?_ <;> (conv => whnf)) | (refine And.intro (by omega) ?_ <;> (conv => whnf)) | (refine And.intro (And.intro (by decide) (by decide)) ?_ <;> (conv => whnf)) | (intro _ <;> (conv => whnf)) | (refine And.intro rfl ?_ <;> (conv => whnf)) | (refine onB_t (by with_reducible assumption) ?_ <;> (conv => whnf)) | (refine onB_f (by with_reducible assumption) ?_ <;> (conv => whnf)))
          (refine onB_mk (fun hr => ?_) (fun hr => ?_) <;> (have h := hr) <;> (try simp [-List.getD_eq_getElem?_getD, wl, List.getD_cons_zero, List.getD_cons_succ] at h) <;> (conv => whnf) <;> repeat (first | (refine And.intro trivial ?_ <;> (conv => whnf)) | (refine And.intro (And.intro (Nat.le_of_ble_eq_true rfl) (Nat.le_of_ble_eq_true rfl)) ?_ <;> (conv => whnf)) | (refine And.intro (And.intro (Nat.le_of_ble_eq_true rfl) (oneRows_of rfl)) ?_ <;> (conv => whnf)) | (refine And.intro (And.intro (Nat.eq_of_beq_eq_true rfl) (And.intro (oneRows_of rfl) (Nat.le_of_ble_eq_true rfl))) ?_ <;> (conv => whnf)) | (refine And.intro (Nat.le_of_ble_eq_true rfl) ?_ <;> (conv => whnf)) | (refine And.intro (And.intro (by omega) (by omega)) ?_ <;> (conv => whnf)) | (refine And.intro (by omega) ?_ <;> (conv => whnf)) | (refine And.intro (And.intro (by decide) (by decide)) ?_ <;> (conv => whnf)) | (intro _ <;> (conv => whnf)) | (refine And.intro rfl ?_ <;> (conv => whnf)) | (refine onB_t (by with_reducible assumption) ?_ <;> (conv => whnf)) | (refine onB_f (by with_reducible assumption) ?_ <;> (conv => whnf))))
          · refine ret_now _ (by_f fun ho => ?_)
            have hmem : M.getD n 0 ∈ M := by simp [List.getD_eq_getElem?_getD, hn3]
            have he : M.getD n 0 = incT (s.allocs.getD k default) t := h
            have h0 := hnz _ hmem
            rw [he] at hmem h0
            exact hnd ho.2 ht2 h0 hmem
          · exact ⟨n + 1, by omega, ⟨by omega, fun m hm => by
              rcases Nat.lt_succ_iff_lt_or_eq.1 hm with h1 | h1
              · exact hM m h1
              · rw [h1]; exact h⟩, Wk.sub ⟨rfl, rfl, by simp only [← wrapS (show n < 9223372036854775807 by omega)]; rfl, rfl, rfl, rfl, trivial⟩⟩
        · have hnM : n = M.length := by omega
          subst hnM
          have hnot : incT (s.allocs.getD k default) t ∉ M := fun hm => by
            obtain ⟨j, hj, e⟩ := List.getElem_of_mem hm
            exact hM j hj (by simp [List.getD_eq_getElem?_getD, hj, e])
          have hs := hsucc ht2
          (refine onB_mk (fun hr => ?_) (fun hr => ?_) <;> (have h := hr) <;> (try simp [-List.getD_eq_getElem?_getD, wl, List.getD_cons_zero, List.getD_cons_succ] at h) <;> (conv => whnf) <;> repeat (first | (refine And.intro trivial ?_ <;> (conv => whnf)) | (refine And.intro (And.intro (Nat.le_of_ble_eq_true rfl) (Nat.le_of_ble_eq_true rfl)) ?_ <;> (conv => whnf)) | (refine And.intro (And.intro (Nat.le_of_ble_eq_true rfl) (oneRows_of rfl)) ?_ <;> (conv => whnf)) | (refine And.intro (And.intro (Nat.eq_of_beq_eq_true rfl) (And.intro (oneRows_of rfl) (Nat.le_of_ble_eq_true rfl))) ?_ <;> (conv => whnf)) | (refine And.intro (Nat.le_of_ble_eq_true rfl) ?_ <;> (conv => whnf)) | (refine And.intro (And.intro (by omega) (by omega)) ?_ <;> (conv => whnf)) | (refine And.intro (by omega) ?_ <;> (conv => whnf)) | (refine And.intro (And.intro (by decide) (by decide)) ?_ <;> (conv => whnf)) | (intro _ <;> (conv => whnf)) | (refine And.intro rfl ?_ <;> (conv => whnf)) | (refine onB_t (by with_reducible assumption) ?_ <;> (conv => whnf)) | (refine onB_f (by with_reducible assumption) ?_ <;> (conv => whnf))))
          · have h0 : incT (s.allocs.getD k default) t ≠ 0 := h
            rw [if_pos h0] at hs
            have hh : 0 + M.length = (rowsI M).length ∧ oneRows [[I (incT (s.allocs.getD k default) t)]] ∧ (M.length + 1) * 8 ≤ 140737488355328 := ⟨by simp, oneRows_of rfl, by omega⟩
            refine And.intro hh ?_ <;> (conv => whnf) <;> repeat (first | (refine And.intro trivial ?_ <;> (conv => whnf)) | (refine And.intro (And.intro (Nat.le_of_ble_eq_true rfl) (Nat.le_of_ble_eq_true rfl)) ?_ <;> (conv => whnf)) | (refine And.intro (And.intro (Nat.le_of_ble_eq_true rfl) (oneRows_of rfl)) ?_ <;> (conv => whnf)) | (refine And.intro (And.intro (Nat.eq_of_beq_eq_true rfl) (And.intro (oneRows_of rfl) (Nat.le_of_ble_eq_true rfl))) ?_ <;> (conv => whnf)) | (refine And.intro (Nat.le_of_ble_eq_true rfl) ?_ <;> (conv => whnf)) | (refine And.intro (And.intro (by omega) (by omega)) ?_ <;> (conv => whnf)) | (refine And.intro (by omega) ?_ <;> (conv => whnf)) | (refine And.intro (And.intro (by decide) (by decide)) ?_ <;> (conv => whnf)) | (intro _ <;> (conv => whnf)) | (refine And.intro rfl ?_ <;> (conv => whnf)) | (refine onB_t (by with_reducible assumption) ?_ <;> (conv => whnf)) | (refine onB_f (by with_reducible assumption) ?_ <;> (conv => whnf)))
            exact ⟨t + 1, by omega, ⟨by omega, by rw [hs]; exact List.nodup_append.2 ⟨hD, by simp, fun x hx y hy => by rw [List.mem_singleton.1 hy]; exact fun e => hnot (e ▸ hx)⟩⟩, Wk.re (fun i => if i = 1 then 4 else i) rfl (nofun) (injL rfl) ⟨⟨rfl, rfl⟩, ⟨by simp only [← wrapS (show t < 9223372036854775807 by omega)]; rfl, rfl⟩, ⟨rfl, rfl⟩, ⟨by rw [hs, List.length_append]; rfl, rfl⟩, ⟨rfl, rfl⟩, trivial⟩
              ⟨⟨rfl, _, rfl, .inl ⟨rfl, free1 rfl⟩, nofun⟩, ⟨rfl, _, rfl, .inl ⟨by rw [hs]; simp only [rowsI, List.map_append]; rfl, freeI⟩, nofun⟩, ⟨rfl, _, rfl, .inl ⟨rfl, free1 rfl⟩, nofun⟩, trivial⟩⟩
          · have h0 : ¬ incT (s.allocs.getD k default) t ≠ 0 := fun hh => hh h
            rw [if_neg h0, List.append_nil] at hs
            exact ⟨t + 1, by omega, ⟨by omega, by rw [hs]; exact hD⟩, Wk.cut rfl ⟨⟨rfl, rfl⟩, ⟨by simp only [← wrapS (show t < 9223372036854775807 by omega)]; rfl, rfl⟩, ⟨rfl, rfl⟩, ⟨by rw [hs]; rfl, rfl⟩, ⟨rfl, rfl⟩, trivial⟩
              ⟨⟨rfl, rfl, row1 rfl, nofun⟩, ⟨by rw [hs]; rfl, rfl, bd_rows freeI, nofun⟩, ⟨rfl, rfl, row1 rfl, nofun⟩, trivial⟩⟩
      · have htt : t = (s.allocs.getD k default).tasks.length := by omega
        subst htt
        have hs : incsL (s.allocs.take (k + 1)) = M := by rw [takeS hi2, incsL_snoc, hLe, hMe]
        exact ⟨k + 1, by omega, ⟨by omega, fun m hm q hq => by
            rcases Nat.lt_succ_iff_lt_or_eq.1 hm with h1 | h1
            · exact hP m h1 q hq
            · subst h1; exact hQ q hq, by rw [hs]; exact hD⟩, Wk.cut rfl ⟨⟨rfl, rfl⟩, ⟨by rw [hs]; rfl, rfl⟩, ⟨by simp only [← wrapS (show k < 9223372036854775807 by omega)]; rfl, rfl⟩, trivial⟩
          ⟨⟨by rw [hs]; rfl, rfl, bd_rows freeI, nofun⟩, ⟨rfl, rfl, row1 rfl, nofun⟩, trivial⟩⟩
  · have hil : i = s.allocs.length := by omega
    subst hil
    rw [List.take_length] at hLe
    exact ret_now _ (by_t ⟨hP, by rw [hLe]; exact hN⟩)
end Go.Proofs.YtajpldeffhagaaaGreat
