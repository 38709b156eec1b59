/- The reference's test of allocations, and that they have nothing in common. -/
import Derived.Test.YtajpldeffhagaaaGreatC10
namespace Go.Proofs.YtajpldeffhagaaaGreat
open Go.RowKit E
set_option maxRecDepth 100000
set_option linter.unusedVariables false
set_option linter.unusedSimpArgs false
def allTk (a : Alloc) (next : Int) : Prop := ∀ j, j < a.tasks.length → tkOk a next (a.tasks.getD j default)
def allocOk (c : Config) (s : State) (a : Alloc) : Prop := specE a.spec = 0 ∧ 1 ≤ a.life ∧ a.life < s.lives ∧ 0 ≤ a.slot ∧ a.slot < c.allocs ∧ a.tasks.length = a.spec.tasks.length ∧ allTk a s.next
open Classical in
set_option maxHeartbeats 4000000 in
theorem refAlloc_p (c : Config) (s : State) (a : Alloc) (hs : ∀ j, 0 ≤ (a.tasks.getD j default).state) : Pure Tryz.prog 25 [c.av, s.av, a.av] (B (decide (allocOk c s a))) := by
  refine Pure.ev Tryz.f25 mx Tryz.func25 (by kernel_rfl) rfl rfl rfl ?_ <;> (conv => whnf) <;> repeat (first | (refine And.intro trivial ?_ <;> (conv => whnf)) | (refine And.intro (And.intro (Nat.le_of_ble_eq_true rfl) (Nat.le_of_ble_eq_true rfl)) ?_ <;> (conv => whnf)) | (refine And.intro (And.intro (Nat.le_of_ble_eq_true rfl) (oneRows_of rfl)) ?_ <;> (conv => whnf)) | (refine And.intro (And.intro (Nat.eq_of_beq_eq_true rfl) (And.intro (oneRows_of rfl) (Nat.le_of_ble_eq_true rfl))) ?_ <;> (conv => whnf)) | (refine And.intro (Nat.le_of_ble_eq_true rfl) ?_ <;> (conv => whnf)) | (refine And.intro (And.intro (by omega) (by omega)) ?_ <;> (conv => whnf)) | (refine And.intro (by omega) ?_ <;> (conv => whnf)) | (refine And.intro (And.intro (by decide) (by decide)) ?_ <;> (conv => whnf)) | (intro _ <;> (conv => whnf)) | (refine And.intro rfl ?_ <;> (conv => whnf)) | (refine onB_t (by with_reducible assumption) ?_ <;> (conv => whnf)) | (refine onB_f (by with_reducible assumption) ?_ <;> (conv => whnf)))
  (first | refine Pure.call (check13_p a.spec) ?_ | refine ⟨_, check13_p a.spec, ?_⟩) <;> (conv => whnf) <;> repeat (first | (refine And.intro trivial ?_ <;> (conv => whnf)) | (refine And.intro (And.intro (Nat.le_of_ble_eq_true rfl) (Nat.le_of_ble_eq_true rfl)) ?_ <;> (conv => whnf)) | (refine And.intro (And.intro (Nat.le_of_ble_eq_true rfl) (oneRows_of rfl)) ?_ <;> (conv => whnf)) | (refine And.intro (And.intro (Nat.eq_of_beq_eq_true rfl) (And.intro (oneRows_of rfl) (Nat.le_of_ble_eq_true rfl))) ?_ <;> (conv => whnf)) | (refine And.intro (Nat.le_of_ble_eq_true rfl) ?_ <;> (conv => whnf)) | (refine And.intro (And.intro (by omega) (by omega)) ?_ <;> (conv => whnf)) | (refine And.intro (by omega) ?_ <;> (conv => whnf)) | (refine And.intro (And.intro (by decide) (by decide)) ?_ <;> (conv => whnf)) | (intro _ <;> (conv => whnf)) | (refine And.intro rfl ?_ <;> (conv => whnf)) | (refine onB_t (by with_reducible assumption) ?_ <;> (conv => whnf)) | (refine onB_f (by with_reducible assumption) ?_ <;> (conv => whnf)))
  repeat' ((refine onB_mk (fun hr => ?_) (fun hr => ?_) <;> (have h := hr) <;> (try simp [-List.getD_eq_getElem?_getD, wl, List.getD_cons_zero, List.getD_cons_succ] at h) <;> (conv => whnf) <;> repeat (first | (refine And.intro trivial ?_ <;> (conv => whnf)) | (refine And.intro (And.intro (Nat.le_of_ble_eq_true rfl) (Nat.le_of_ble_eq_true rfl)) ?_ <;> (conv => whnf)) | (refine And.intro (And.intro (Nat.le_of_ble_eq_true rfl) (oneRows_of rfl)) ?_ <;> (conv => whnf)) | (refine And.intro (And.intro (Nat.eq_of_beq_eq_true rfl) (And.intro (oneRows_of rfl) (Nat.le_of_ble_eq_true rfl))) ?_ <;> (conv => whnf)) | (refine And.intro (Nat.le_of_ble_eq_true rfl) ?_ <;> (conv => whnf)) | (refine And.intro (And.intro (by omega) (by omega)) ?_ <;> (conv => whnf)) | (refine And.intro (by omega) ?_ <;> (conv => whnf)) | (refine And.intro (And.intro (by decide) (by decide)) ?_ <;> (conv => whnf)) | (intro _ <;> (conv => whnf)) | (refine And.intro rfl ?_ <;> (conv => whnf)) | (refine onB_t (by with_reducible assumption) ?_ <;> (conv => whnf)) | (refine onB_f (by with_reducible assumption) ?_ <;> (conv => whnf)))))
  all_goals first
    | exact ret_now _ (by_f fun ho => by obtain ⟨h1, h2, h3, h4, h5, h6, h7⟩ := ho; first | omega | exact absurd h1 h)
    | skip
  have hA : specE a.spec = 0 := by assumption
  refine loop_st (S := Nat) (fun k => [(4, .hptr 1 5 0 0), (5, .hptr 2 10 0 0), (7, I k)])
    (fun _ => ⟨3, [(2, some ⟨10, [a.fv.map FV.up], none⟩), (1, some ⟨5, [s.fv.map FV.up], none⟩)]⟩) (fun k => k ≤ a.tasks.length ∧ ∀ j, j < k → tkOk a s.next (a.tasks.getD j default)) (fun k => a.tasks.length - k) 0
    (Wk.cut rfl ⟨⟨rfl, rfl⟩, ⟨rfl, rfl⟩, ⟨rfl, rfl⟩, trivial⟩ ⟨⟨rfl, rfl, row1 rfl, nofun⟩, ⟨rfl, rfl, row1 rfl, nofun⟩, trivial⟩) ⟨Nat.zero_le _, fun j hj => absurd hj (Nat.not_lt_zero j)⟩ ?_
  rintro k ⟨hk, hT⟩
  have hall : (∀ j, j < a.tasks.length → tkOk a s.next (a.tasks.getD j default)) → allocOk c s a := fun h => ⟨hA, by omega, by omega, by omega, by omega, by omega, h⟩
  clear hA
  (conv => whnf) <;> repeat (first | (refine And.intro trivial ?_ <;> (conv => whnf)) | (refine And.intro (And.intro (Nat.le_of_ble_eq_true rfl) (Nat.le_of_ble_eq_true rfl)) ?_ <;> (conv => whnf)) | (refine And.intro (And.intro (Nat.le_of_ble_eq_true rfl) (oneRows_of rfl)) ?_ <;> (conv => whnf)) | (refine And.intro (And.intro (Nat.eq_of_beq_eq_true rfl) (And.intro (oneRows_of rfl) (Nat.le_of_ble_eq_true rfl))) ?_ <;> (conv => whnf)) | (refine And.intro (Nat.le_of_ble_eq_true rfl) ?_ <;> (conv => whnf)) | (refine And.intro (And.intro (by omega) (by omega)) ?_ <;> (conv => whnf)) | (refine And.intro (by omega) ?_ <;> (conv => whnf)) | (refine And.intro (And.intro (by decide) (by decide)) ?_ <;> (conv => whnf)) | (intro _ <;> (conv => whnf)) | (refine And.intro rfl ?_ <;> (conv => whnf)) | (refine onB_t (by with_reducible assumption) ?_ <;> (conv => whnf)) | (refine onB_f (by with_reducible assumption) ?_ <;> (conv => whnf)))
  (refine onB_mk (fun hr => ?_) (fun hr => ?_) <;> (have h := hr) <;> (try simp [-List.getD_eq_getElem?_getD, wl, List.getD_cons_zero, List.getD_cons_succ] at h) <;> (conv => whnf) <;> repeat (first | (refine And.intro trivial ?_ <;> (conv => whnf)) | (refine And.intro (And.intro (Nat.le_of_ble_eq_true rfl) (Nat.le_of_ble_eq_true rfl)) ?_ <;> (conv => whnf)) | (refine And.intro (And.intro (Nat.le_of_ble_eq_true rfl) (oneRows_of rfl)) ?_ <;> (conv => whnf)) | (refine And.intro (And.intro (Nat.eq_of_beq_eq_true rfl) (And.intro (oneRows_of rfl) (Nat.le_of_ble_eq_true rfl))) ?_ <;> (conv => whnf)) | (refine And.intro (Nat.le_of_ble_eq_true rfl) ?_ <;> (conv => whnf)) | (refine And.intro (And.intro (by omega) (by omega)) ?_ <;> (conv => whnf)) | (refine And.intro (by omega) ?_ <;> (conv => whnf)) | (refine And.intro (And.intro (by decide) (by decide)) ?_ <;> (conv => whnf)) | (intro _ <;> (conv => whnf)) | (refine And.intro rfl ?_ <;> (conv => whnf)) | (refine onB_t (by with_reducible assumption) ?_ <;> (conv => whnf)) | (refine onB_f (by with_reducible assumption) ?_ <;> (conv => whnf))))
  · have hk2 : k < a.tasks.length := h
    have hnot : (errT (a.tasks.getD k default) = 0 ∧ (a.tasks.getD k default).inc < s.next ∧ endOk a.stop (a.tasks.getD k default).state → False) → ¬ allocOk c s a := fun hc ho => by
      obtain ⟨e1, e2, e3⟩ := ho.2.2.2.2.2.2 k hk2
      exact hc ⟨e1, e2, e3⟩
    have hyes : errT (a.tasks.getD k default) = 0 → (a.tasks.getD k default).inc < s.next → endOk a.stop (a.tasks.getD k default).state → ∀ j, j < k + 1 → tkOk a s.next (a.tasks.getD j default) := fun e1 e2 e3 j hj => by
      rcases Nat.lt_succ_iff_lt_or_eq.1 hj with h1 | h1
      · exact hT j h1
      · rw [h1]; exact ⟨e1, e2, e3⟩
    clear hT hall
    (first | refine Pure.call (ref19Check_p _ (hs k)) ?_ | refine ⟨_, ref19Check_p _ (hs k), ?_⟩) <;> (conv => whnf) <;> repeat (first | (refine And.intro trivial ?_ <;> (conv => whnf)) | (refine And.intro (And.intro (Nat.le_of_ble_eq_true rfl) (Nat.le_of_ble_eq_true rfl)) ?_ <;> (conv => whnf)) | (refine And.intro (And.intro (Nat.le_of_ble_eq_true rfl) (oneRows_of rfl)) ?_ <;> (conv => whnf)) | (refine And.intro (And.intro (Nat.eq_of_beq_eq_true rfl) (And.intro (oneRows_of rfl) (Nat.le_of_ble_eq_true rfl))) ?_ <;> (conv => whnf)) | (refine And.intro (Nat.le_of_ble_eq_true rfl) ?_ <;> (conv => whnf)) | (refine And.intro (And.intro (by omega) (by omega)) ?_ <;> (conv => whnf)) | (refine And.intro (by omega) ?_ <;> (conv => whnf)) | (refine And.intro (And.intro (by decide) (by decide)) ?_ <;> (conv => whnf)) | (intro _ <;> (conv => whnf)) | (refine And.intro rfl ?_ <;> (conv => whnf)) | (refine onB_t (by with_reducible assumption) ?_ <;> (conv => whnf)) | (refine onB_f (by with_reducible assumption) ?_ <;> (conv => whnf)))
    repeat' (first
      | ((refine onB_mk (fun hr => ?_) (fun hr => ?_) <;> (have h := hr) <;> (try simp [-List.getD_eq_getElem?_getD, wl, List.getD_cons_zero, List.getD_cons_succ] at h) <;> (conv => whnf) <;> repeat (first | (refine And.intro trivial ?_ <;> (conv => whnf)) | (refine And.intro (And.intro (Nat.le_of_ble_eq_true rfl) (Nat.le_of_ble_eq_true rfl)) ?_ <;> (conv => whnf)) | (refine And.intro (And.intro (Nat.le_of_ble_eq_true rfl) (oneRows_of rfl)) ?_ <;> (conv => whnf)) | (refine And.intro (And.intro (Nat.eq_of_beq_eq_true rfl) (And.intro (oneRows_of rfl) (Nat.le_of_ble_eq_true rfl))) ?_ <;> (conv => whnf)) | (refine And.intro (Nat.le_of_ble_eq_true rfl) ?_ <;> (conv => whnf)) | (refine And.intro (And.intro (by omega) (by omega)) ?_ <;> (conv => whnf)) | (refine And.intro (by omega) ?_ <;> (conv => whnf)) | (refine And.intro (And.intro (by decide) (by decide)) ?_ <;> (conv => whnf)) | (intro _ <;> (conv => whnf)) | (refine And.intro rfl ?_ <;> (conv => whnf)) | (refine onB_t (by with_reducible assumption) ?_ <;> (conv => whnf)) | (refine onB_f (by with_reducible assumption) ?_ <;> (conv => whnf)))))
      | ((first | refine Pure.call (ref19Over_p _) ?_ | refine ⟨_, ref19Over_p _, ?_⟩) <;> (conv => whnf) <;> repeat (first | (refine And.intro trivial ?_ <;> (conv => whnf)) | (refine And.intro (And.intro (Nat.le_of_ble_eq_true rfl) (Nat.le_of_ble_eq_true rfl)) ?_ <;> (conv => whnf)) | (refine And.intro (And.intro (Nat.le_of_ble_eq_true rfl) (oneRows_of rfl)) ?_ <;> (conv => whnf)) | (refine And.intro (And.intro (Nat.eq_of_beq_eq_true rfl) (And.intro (oneRows_of rfl) (Nat.le_of_ble_eq_true rfl))) ?_ <;> (conv => whnf)) | (refine And.intro (Nat.le_of_ble_eq_true rfl) ?_ <;> (conv => whnf)) | (refine And.intro (And.intro (by omega) (by omega)) ?_ <;> (conv => whnf)) | (refine And.intro (by omega) ?_ <;> (conv => whnf)) | (refine And.intro (And.intro (by decide) (by decide)) ?_ <;> (conv => whnf)) | (intro _ <;> (conv => whnf)) | (refine And.intro rfl ?_ <;> (conv => whnf)) | (refine onB_t (by with_reducible assumption) ?_ <;> (conv => whnf)) | (refine onB_f (by with_reducible assumption) ?_ <;> (conv => whnf)))))
    all_goals first
      | exact ret_now _ (by_f (hnot fun hc => by obtain ⟨e1, e2, ⟨e3, e4⟩⟩ := hc; omega))
      | exact ret_now _ (by_f (hnot fun hc => by obtain ⟨e1, e2, ⟨e3, e4⟩⟩ := hc; clear hnot hyes; (try simp only [endsT, overT] at *); simp_all))
      | exact ⟨k + 1, by omega, ⟨by omega, hyes (by omega) (by omega) ⟨by (try simp only [endsT, overT] at *); simp_all, by (try simp only [endsT, overT] at *); simp_all⟩⟩, Wk.cut rfl ⟨⟨rfl, rfl⟩, ⟨rfl, rfl⟩, ⟨by simp only [← wrapS (show k < 9223372036854775807 by omega)]; rfl, rfl⟩, trivial⟩ ⟨⟨rfl, rfl, row1 rfl, nofun⟩, ⟨rfl, rfl, row1 rfl, nofun⟩, trivial⟩⟩
  · exact ret_now _ (by_t (hall fun j hj => hT j (by omega)))
/-- The incarnations that are not 0. -/
def incsA (a : Alloc) (k : Nat) : List Int := ((a.tasks.take k).map fun t => t.inc).filter fun n => n ≠ 0
def incsL (l : List Alloc) : List Int := (l.map fun a => incsA a a.tasks.length).flatten
theorem incsL_snoc (l : List Alloc) (a : Alloc) : incsL (l ++ [a]) = incsL l ++ incsA a a.tasks.length := by simp [incsL]
theorem incsA_succ {a : Alloc} {k : Nat} (h : k < a.tasks.length) : incsA a (k + 1) = incsA a k ++ (if incT a k ≠ 0 then [incT a k] else []) := by
  unfold incsA
  rw [takeS h, List.map_append, List.filter_append]
  congr 1
  by_cases c : incT a k = 0 <;> simp [incT] at c <;> simp [incT, c]
def pairOk (s : State) (i k : Nat) : Prop := (s.allocs.getD k default).life ≠ (s.allocs.getD i default).life ∧ (s.allocs.getD k default).slot ≠ (s.allocs.getD i default).slot ∧ (s.allocs.getD k default).spec.id < (s.allocs.getD i default).spec.id
def apartOk (s : State) : Prop := (∀ i, i < s.allocs.length → ∀ k, k < i → pairOk s i k) ∧ (incsL s.allocs).Nodup
theorem nodup_pre {s : State} (h : (incsL s.allocs).Nodup) {i k : Nat} (hi : i < s.allocs.length) (hk : k < (s.allocs.getD i default).tasks.length) (h0 : incT (s.allocs.getD i default) k ≠ 0) : incT (s.allocs.getD i default) k ∉ incsL (s.allocs.take i) ++ incsA (s.allocs.getD i default) k := by
  have e1 : s.allocs = s.allocs.take (i + 1) ++ s.allocs.drop (i + 1) := (List.take_append_drop _ _).symm
  have e2 : incsL s.allocs = incsL (s.allocs.take (i + 1)) ++ incsL (s.allocs.drop (i + 1)) := by
    unfold incsL
    rw [← List.flatten_append, ← List.map_append, List.take_append_drop]
  rw [e2, takeS hi, incsL_snoc] at h
  have h1 := (List.nodup_append.1 h).1
  generalize s.allocs.getD i default = a at *
  have e3 : ∃ r, incsA a a.tasks.length = incsA a (k + 1) ++ r := ⟨((a.tasks.drop (k + 1)).map fun t => t.inc).filter fun n => n ≠ 0, by
    unfold incsA
    rw [List.take_length, ← List.filter_append, ← List.map_append, List.take_append_drop]⟩
  obtain ⟨r, e3⟩ := e3
  rw [e3, incsA_succ hk, if_pos h0, ← List.append_assoc] at h1
  have h2 := (List.nodup_append.1 h1).1
  rw [← List.append_assoc] at h2
  intro hm
  have := List.nodup_append.1 h2
  exact this.2.2 _ hm _ (List.mem_singleton.2 rfl) rfl
end Go.Proofs.YtajpldeffhagaaaGreat
