/- state.Check and the reference's: one answer. state.Check: the program's. -/
import Derived.Test.YtajpldeffhagaaaGreatM5
import Derived.Test.YtajpldeffhagaaaGreatC5
namespace Go.Proofs.YtajpldeffhagaaaGreat
open Go.RowKit E
set_option maxRecDepth 100000
set_option linter.unusedVariables false
set_option linter.unusedSimpArgs false
def stOk (c : Config) (s : State) : Prop := inR s.epoch 0 1099511627776 ∧ inR s.next 1 1099511627776 ∧ inR s.lives 1 1099511627776 ∧ inR s.ack (-1) 1099511627776 ∧ (s.allocs.length : Int) ≤ c.allocs ∧ apartOk s ∧ (∀ i, i < s.allocs.length → allocOk c s (s.allocs.getD i default)) ∧ roomB c (usedR s.allocs) = true ∧ pdisB (usedP s.allocs) = true
open Classical in
noncomputable def stE (c : Config) (s : State) : Int := if ¬ c.ok then 3 else if stOk c s then 0 else 2
theorem stE_c {c : Config} {s : State} (h : ¬ c.ok) : stE c s = 3 := if_pos h
theorem stE_y {c : Config} {s : State} (h : c.ok) (h2 : stOk c s) : stE c s = 0 := by unfold stE; rw [if_neg (not_not_intro h), if_pos h2]
theorem stE_n {c : Config} {s : State} (h : c.ok) (h2 : ¬ stOk c s) : stE c s = 2 := by unfold stE; rw [if_neg (not_not_intro h), if_neg h2]
/-- The tasks' states are no less than 0, as bytes are. -/
def State.wfS (s : State) : Prop := ∀ i j, 0 ≤ ((s.allocs.getD i default).tasks.getD j default).state
theorem few_ports {s : State} (hf : s.few) (i : Nat) : ((usedP s.allocs).getD i []).length ≤ 1000 := by
  by_cases h : i < (usedP s.allocs).length
  · have hm : (usedP s.allocs).getD i [] ∈ usedP s.allocs := by simp [List.getD_eq_getElem?_getD, h]
    unfold usedP live at hm
    obtain ⟨a, ha, e⟩ := List.mem_map.1 hm
    obtain ⟨j, hj, e2⟩ := List.getElem_of_mem (List.mem_filter.1 ha).1
    have := (hf.2 j).2.2.1
    have e' : a.spec.ports = (usedP s.allocs).getD i [] := e
    rw [← e']
    have e3 : s.allocs.getD j default = a := by simp [List.getD_eq_getElem?_getD, hj, e2]
    rw [e3] at this; omega
  · rw [List.getD_eq_getElem?_getD, List.getElem?_eq_none (by omega)]; simp
open Classical in
set_option maxHeartbeats 4000000 in
theorem refCheck_p (c : Config) (s : State) (hf : s.few) (hw : s.wfS) : Pure Tryz.prog 8 [c.av, s.av] (I (stE c s)) := by
  have hn := hf.1
  have hA := refApart_p s (by omega) (fun i => by have := (hf.2 i).1; omega)
  have hU := used_p s (by omega)
  have hF := refFits_p c (usedR s.allocs) (usedP s.allocs) (few_ports hf)
  by_cases hc : c.ok
  case neg =>
    rw [stE_c hc]
    refine Pure.ev Tryz.f8 mx Tryz.func8 (by kernel_rfl) rfl rfl rfl ?_ <;> (conv => whnf) <;> repeat ((first | refine SeqW.go ?_ | refine And.intro trivial ?_ | refine And.intro (And.intro (Nat.le_of_ble_eq_true rfl) (Nat.le_of_ble_eq_true rfl)) ?_ | refine And.intro (And.intro (Nat.le_of_ble_eq_true rfl) (oneRows_of rfl)) ?_ | refine And.intro (And.intro (Nat.eq_of_beq_eq_true rfl) (And.intro (oneRows_of rfl) (Nat.le_of_ble_eq_true rfl))) ?_ | refine And.intro (Nat.le_of_ble_eq_true rfl) ?_ | refine And.intro (And.intro (by omega) (by omega)) ?_ | refine And.intro (by omega) ?_ | refine And.intro (And.intro (by decide) (by decide)) ?_ | intro _ | refine And.intro rfl ?_ | refine onB_t (by with_reducible assumption) ?_ | refine onB_f (by with_reducible assumption) ?_) <;> (conv => whnf))
    (first | refine Pure.call (config13_p c) ?_ | refine ⟨_, config13_p c, ?_⟩) <;> (conv => whnf) <;> repeat ((first | refine SeqW.go ?_ | refine And.intro trivial ?_ | refine And.intro (And.intro (Nat.le_of_ble_eq_true rfl) (Nat.le_of_ble_eq_true rfl)) ?_ | refine And.intro (And.intro (Nat.le_of_ble_eq_true rfl) (oneRows_of rfl)) ?_ | refine And.intro (And.intro (Nat.eq_of_beq_eq_true rfl) (And.intro (oneRows_of rfl) (Nat.le_of_ble_eq_true rfl))) ?_ | refine And.intro (Nat.le_of_ble_eq_true rfl) ?_ | refine And.intro (And.intro (by omega) (by omega)) ?_ | refine And.intro (by omega) ?_ | refine And.intro (And.intro (by decide) (by decide)) ?_ | intro _ | refine And.intro rfl ?_ | refine onB_t (by with_reducible assumption) ?_ | refine onB_f (by with_reducible assumption) ?_) <;> (conv => whnf))
    rw [eUn_n hc]
    (conv => whnf) <;> repeat ((first | refine SeqW.go ?_ | refine And.intro trivial ?_ | refine And.intro (And.intro (Nat.le_of_ble_eq_true rfl) (Nat.le_of_ble_eq_true rfl)) ?_ | refine And.intro (And.intro (Nat.le_of_ble_eq_true rfl) (oneRows_of rfl)) ?_ | refine And.intro (And.intro (Nat.eq_of_beq_eq_true rfl) (And.intro (oneRows_of rfl) (Nat.le_of_ble_eq_true rfl))) ?_ | refine And.intro (Nat.le_of_ble_eq_true rfl) ?_ | refine And.intro (And.intro (by omega) (by omega)) ?_ | refine And.intro (by omega) ?_ | refine And.intro (And.intro (by decide) (by decide)) ?_ | intro _ | refine And.intro rfl ?_ | refine onB_t (by with_reducible assumption) ?_ | refine onB_f (by with_reducible assumption) ?_) <;> (conv => whnf))
    exact ret_now _ rfl
  refine Pure.ev Tryz.f8 mx Tryz.func8 (by kernel_rfl) rfl rfl rfl ?_ <;> (conv => whnf) <;> repeat ((first | refine SeqW.go ?_ | refine And.intro trivial ?_ | refine And.intro (And.intro (Nat.le_of_ble_eq_true rfl) (Nat.le_of_ble_eq_true rfl)) ?_ | refine And.intro (And.intro (Nat.le_of_ble_eq_true rfl) (oneRows_of rfl)) ?_ | refine And.intro (And.intro (Nat.eq_of_beq_eq_true rfl) (And.intro (oneRows_of rfl) (Nat.le_of_ble_eq_true rfl))) ?_ | refine And.intro (Nat.le_of_ble_eq_true rfl) ?_ | refine And.intro (And.intro (by omega) (by omega)) ?_ | refine And.intro (by omega) ?_ | refine And.intro (And.intro (by decide) (by decide)) ?_ | intro _ | refine And.intro rfl ?_ | refine onB_t (by with_reducible assumption) ?_ | refine onB_f (by with_reducible assumption) ?_) <;> (conv => whnf))
  (first | refine Pure.call (config13_p c) ?_ | refine ⟨_, config13_p c, ?_⟩) <;> (conv => whnf) <;> repeat ((first | refine SeqW.go ?_ | refine And.intro trivial ?_ | refine And.intro (And.intro (Nat.le_of_ble_eq_true rfl) (Nat.le_of_ble_eq_true rfl)) ?_ | refine And.intro (And.intro (Nat.le_of_ble_eq_true rfl) (oneRows_of rfl)) ?_ | refine And.intro (And.intro (Nat.eq_of_beq_eq_true rfl) (And.intro (oneRows_of rfl) (Nat.le_of_ble_eq_true rfl))) ?_ | refine And.intro (Nat.le_of_ble_eq_true rfl) ?_ | refine And.intro (And.intro (by omega) (by omega)) ?_ | refine And.intro (by omega) ?_ | refine And.intro (And.intro (by decide) (by decide)) ?_ | intro _ | refine And.intro rfl ?_ | refine onB_t (by with_reducible assumption) ?_ | refine onB_f (by with_reducible assumption) ?_) <;> (conv => whnf))
  rw [eUn_y hc]
  (conv => whnf) <;> repeat ((first | refine SeqW.go ?_ | refine And.intro trivial ?_ | refine And.intro (And.intro (Nat.le_of_ble_eq_true rfl) (Nat.le_of_ble_eq_true rfl)) ?_ | refine And.intro (And.intro (Nat.le_of_ble_eq_true rfl) (oneRows_of rfl)) ?_ | refine And.intro (And.intro (Nat.eq_of_beq_eq_true rfl) (And.intro (oneRows_of rfl) (Nat.le_of_ble_eq_true rfl))) ?_ | refine And.intro (Nat.le_of_ble_eq_true rfl) ?_ | refine And.intro (And.intro (by omega) (by omega)) ?_ | refine And.intro (by omega) ?_ | refine And.intro (And.intro (by decide) (by decide)) ?_ | intro _ | refine And.intro rfl ?_ | refine onB_t (by with_reducible assumption) ?_ | refine onB_f (by with_reducible assumption) ?_) <;> (conv => whnf))
  repeat' (first
    | ((refine onB_mk (fun hr => ?_) (fun hr => ?_) <;> (have h := hr) <;> (try simp [-List.getD_eq_getElem?_getD, wl, List.getD_cons_zero, List.getD_cons_succ] at h) <;> (conv => whnf) <;> repeat ((first | refine SeqW.go ?_ | refine And.intro trivial ?_ | refine And.intro (And.intro (Nat.le_of_ble_eq_true rfl) (Nat.le_of_ble_eq_true rfl)) ?_ | refine And.intro (And.intro (Nat.le_of_ble_eq_true rfl) (oneRows_of rfl)) ?_ | refine And.intro (And.intro (Nat.eq_of_beq_eq_true rfl) (And.intro (oneRows_of rfl) (Nat.le_of_ble_eq_true rfl))) ?_ | refine And.intro (Nat.le_of_ble_eq_true rfl) ?_ | refine And.intro (And.intro (by omega) (by omega)) ?_ | refine And.intro (by omega) ?_ | refine And.intro (And.intro (by decide) (by decide)) ?_ | intro _ | refine And.intro rfl ?_ | refine onB_t (by with_reducible assumption) ?_ | refine onB_f (by with_reducible assumption) ?_) <;> (conv => whnf))))
    | ((first | refine Pure.call (hA) ?_ | refine ⟨_, hA, ?_⟩) <;> (conv => whnf) <;> repeat ((first | refine SeqW.go ?_ | refine And.intro trivial ?_ | refine And.intro (And.intro (Nat.le_of_ble_eq_true rfl) (Nat.le_of_ble_eq_true rfl)) ?_ | refine And.intro (And.intro (Nat.le_of_ble_eq_true rfl) (oneRows_of rfl)) ?_ | refine And.intro (And.intro (Nat.eq_of_beq_eq_true rfl) (And.intro (oneRows_of rfl) (Nat.le_of_ble_eq_true rfl))) ?_ | refine And.intro (Nat.le_of_ble_eq_true rfl) ?_ | refine And.intro (And.intro (by omega) (by omega)) ?_ | refine And.intro (by omega) ?_ | refine And.intro (And.intro (by decide) (by decide)) ?_ | intro _ | refine And.intro rfl ?_ | refine onB_t (by with_reducible assumption) ?_ | refine onB_f (by with_reducible assumption) ?_) <;> (conv => whnf))))
  all_goals first
    | exact ret_now _ (by rw [stE_n hc fun ho => by obtain ⟨h1, h2, h3, h4, h5, h6, h7⟩ := ho; unfold inR at *; first | omega | exact absurd h6 h])
    | skip
  have hap : apartOk s := by assumption
  refine loop_st (S := Nat) (fun k => [(2, .hptr 0 11 0 0), (3, .hptr 1 5 0 0), (6, I k)]) (fun _ => ⟨2, [(1, some ⟨5, [s.fv.map FV.up], none⟩), (0, some ⟨11, [c.fv.map FV.up], none⟩)]⟩)
    (fun k => k ≤ s.allocs.length ∧ ∀ j, j < k → allocOk c s (s.allocs.getD j default)) (fun k => s.allocs.length - k) 0
    (Wk.cut rfl ⟨⟨rfl, rfl⟩, ⟨rfl, rfl⟩, ⟨rfl, rfl⟩, trivial⟩ ⟨⟨rfl, rfl, row1 rfl, nofun⟩, ⟨rfl, rfl, row1 rfl, nofun⟩, trivial⟩) ⟨Nat.zero_le _, fun j hj => absurd hj (Nat.not_lt_zero j)⟩ ?_
  rintro k ⟨hk, hT⟩
  have hall : (∀ j, j < s.allocs.length → allocOk c s (s.allocs.getD j default)) → roomB c (usedR s.allocs) = true → pdisB (usedP s.allocs) = true → stOk c s := fun h1 h2 h3 => by
    refine ⟨?_, ?_, ?_, ?_, by omega, hap, h1, h2, h3⟩ <;> (unfold inR; omega)
  clear hap
  (conv => whnf) <;> repeat ((first | refine SeqW.go ?_ | refine And.intro trivial ?_ | refine And.intro (And.intro (Nat.le_of_ble_eq_true rfl) (Nat.le_of_ble_eq_true rfl)) ?_ | refine And.intro (And.intro (Nat.le_of_ble_eq_true rfl) (oneRows_of rfl)) ?_ | refine And.intro (And.intro (Nat.eq_of_beq_eq_true rfl) (And.intro (oneRows_of rfl) (Nat.le_of_ble_eq_true rfl))) ?_ | refine And.intro (Nat.le_of_ble_eq_true rfl) ?_ | refine And.intro (And.intro (by omega) (by omega)) ?_ | refine And.intro (by omega) ?_ | refine And.intro (And.intro (by decide) (by decide)) ?_ | intro _ | refine And.intro rfl ?_ | refine onB_t (by with_reducible assumption) ?_ | refine onB_f (by with_reducible assumption) ?_) <;> (conv => whnf))
  (refine onB_mk (fun hr => ?_) (fun hr => ?_) <;> (have h := hr) <;> (try simp [-List.getD_eq_getElem?_getD, wl, List.getD_cons_zero, List.getD_cons_succ] at h) <;> (conv => whnf) <;> repeat ((first | refine SeqW.go ?_ | refine And.intro trivial ?_ | refine And.intro (And.intro (Nat.le_of_ble_eq_true rfl) (Nat.le_of_ble_eq_true rfl)) ?_ | refine And.intro (And.intro (Nat.le_of_ble_eq_true rfl) (oneRows_of rfl)) ?_ | refine And.intro (And.intro (Nat.eq_of_beq_eq_true rfl) (And.intro (oneRows_of rfl) (Nat.le_of_ble_eq_true rfl))) ?_ | refine And.intro (Nat.le_of_ble_eq_true rfl) ?_ | refine And.intro (And.intro (by omega) (by omega)) ?_ | refine And.intro (by omega) ?_ | refine And.intro (And.intro (by decide) (by decide)) ?_ | intro _ | refine And.intro rfl ?_ | refine onB_t (by with_reducible assumption) ?_ | refine onB_f (by with_reducible assumption) ?_) <;> (conv => whnf)))
  · have hk2 : k < s.allocs.length := h
    (first | refine Pure.call (refAlloc_p c s (s.allocs.getD k default) (hw k)) ?_ | refine ⟨_, refAlloc_p c s (s.allocs.getD k default) (hw k), ?_⟩) <;> (conv => whnf) <;> repeat ((first | refine SeqW.go ?_ | refine And.intro trivial ?_ | refine And.intro (And.intro (Nat.le_of_ble_eq_true rfl) (Nat.le_of_ble_eq_true rfl)) ?_ | refine And.intro (And.intro (Nat.le_of_ble_eq_true rfl) (oneRows_of rfl)) ?_ | refine And.intro (And.intro (Nat.eq_of_beq_eq_true rfl) (And.intro (oneRows_of rfl) (Nat.le_of_ble_eq_true rfl))) ?_ | refine And.intro (Nat.le_of_ble_eq_true rfl) ?_ | refine And.intro (And.intro (by omega) (by omega)) ?_ | refine And.intro (by omega) ?_ | refine And.intro (And.intro (by decide) (by decide)) ?_ | intro _ | refine And.intro rfl ?_ | refine onB_t (by with_reducible assumption) ?_ | refine onB_f (by with_reducible assumption) ?_) <;> (conv => whnf))
    (refine onB_mk (fun hr => ?_) (fun hr => ?_) <;> (have h := hr) <;> (try simp [-List.getD_eq_getElem?_getD, wl, List.getD_cons_zero, List.getD_cons_succ] at h) <;> (conv => whnf) <;> repeat ((first | refine SeqW.go ?_ | refine And.intro trivial ?_ | refine And.intro (And.intro (Nat.le_of_ble_eq_true rfl) (Nat.le_of_ble_eq_true rfl)) ?_ | refine And.intro (And.intro (Nat.le_of_ble_eq_true rfl) (oneRows_of rfl)) ?_ | refine And.intro (And.intro (Nat.eq_of_beq_eq_true rfl) (And.intro (oneRows_of rfl) (Nat.le_of_ble_eq_true rfl))) ?_ | refine And.intro (Nat.le_of_ble_eq_true rfl) ?_ | refine And.intro (And.intro (by omega) (by omega)) ?_ | refine And.intro (by omega) ?_ | refine And.intro (And.intro (by decide) (by decide)) ?_ | intro _ | refine And.intro rfl ?_ | refine onB_t (by with_reducible assumption) ?_ | refine onB_f (by with_reducible assumption) ?_) <;> (conv => whnf)))
    · exact ret_now _ (by rw [stE_n hc fun ho => h (ho.2.2.2.2.2.2.1 k hk2)])
    · exact ⟨k + 1, by omega, ⟨by omega, fun j hj => by
        rcases Nat.lt_succ_iff_lt_or_eq.1 hj with h1 | h1
        · exact hT j h1
        · rw [h1]; exact h⟩, Wk.sub ⟨rfl, rfl, by simp only [← wrapS (show k < 9223372036854775807 by omega)]; rfl, trivial⟩⟩
  · (first | refine Pure.call (hU) ?_ | refine ⟨_, hU, ?_⟩) <;> (conv => whnf) <;> repeat ((first | refine SeqW.go ?_ | refine And.intro trivial ?_ | refine And.intro (And.intro (Nat.le_of_ble_eq_true rfl) (Nat.le_of_ble_eq_true rfl)) ?_ | refine And.intro (And.intro (Nat.le_of_ble_eq_true rfl) (oneRows_of rfl)) ?_ | refine And.intro (And.intro (Nat.eq_of_beq_eq_true rfl) (And.intro (oneRows_of rfl) (Nat.le_of_ble_eq_true rfl))) ?_ | refine And.intro (Nat.le_of_ble_eq_true rfl) ?_ | refine And.intro (And.intro (by omega) (by omega)) ?_ | refine And.intro (by omega) ?_ | refine And.intro (And.intro (by decide) (by decide)) ?_ | intro _ | refine And.intro rfl ?_ | refine onB_t (by with_reducible assumption) ?_ | refine onB_f (by with_reducible assumption) ?_) <;> (conv => whnf))
    (first | refine Pure.call (hF) ?_ | refine ⟨_, hF, ?_⟩) <;> (conv => whnf) <;> repeat ((first | refine SeqW.go ?_ | refine And.intro trivial ?_ | refine And.intro (And.intro (Nat.le_of_ble_eq_true rfl) (Nat.le_of_ble_eq_true rfl)) ?_ | refine And.intro (And.intro (Nat.le_of_ble_eq_true rfl) (oneRows_of rfl)) ?_ | refine And.intro (And.intro (Nat.eq_of_beq_eq_true rfl) (And.intro (oneRows_of rfl) (Nat.le_of_ble_eq_true rfl))) ?_ | refine And.intro (Nat.le_of_ble_eq_true rfl) ?_ | refine And.intro (And.intro (by omega) (by omega)) ?_ | refine And.intro (by omega) ?_ | refine And.intro (And.intro (by decide) (by decide)) ?_ | intro _ | refine And.intro rfl ?_ | refine onB_t (by with_reducible assumption) ?_ | refine onB_f (by with_reducible assumption) ?_) <;> (conv => whnf))
    cases h1 : roomB c (usedR s.allocs)
    · rw [Bool.false_and]
      (conv => whnf) <;> repeat ((first | refine SeqW.go ?_ | refine And.intro trivial ?_ | refine And.intro (And.intro (Nat.le_of_ble_eq_true rfl) (Nat.le_of_ble_eq_true rfl)) ?_ | refine And.intro (And.intro (Nat.le_of_ble_eq_true rfl) (oneRows_of rfl)) ?_ | refine And.intro (And.intro (Nat.eq_of_beq_eq_true rfl) (And.intro (oneRows_of rfl) (Nat.le_of_ble_eq_true rfl))) ?_ | refine And.intro (Nat.le_of_ble_eq_true rfl) ?_ | refine And.intro (And.intro (by omega) (by omega)) ?_ | refine And.intro (by omega) ?_ | refine And.intro (And.intro (by decide) (by decide)) ?_ | intro _ | refine And.intro rfl ?_ | refine onB_t (by with_reducible assumption) ?_ | refine onB_f (by with_reducible assumption) ?_) <;> (conv => whnf))
      exact ret_now _ (by rw [stE_n hc fun ho => by have := ho.2.2.2.2.2.2.2.1; rw [h1] at this; cases this])
    · cases h2 : pdisB (usedP s.allocs)
      · (conv => whnf) <;> repeat ((first | refine SeqW.go ?_ | refine And.intro trivial ?_ | refine And.intro (And.intro (Nat.le_of_ble_eq_true rfl) (Nat.le_of_ble_eq_true rfl)) ?_ | refine And.intro (And.intro (Nat.le_of_ble_eq_true rfl) (oneRows_of rfl)) ?_ | refine And.intro (And.intro (Nat.eq_of_beq_eq_true rfl) (And.intro (oneRows_of rfl) (Nat.le_of_ble_eq_true rfl))) ?_ | refine And.intro (Nat.le_of_ble_eq_true rfl) ?_ | refine And.intro (And.intro (by omega) (by omega)) ?_ | refine And.intro (by omega) ?_ | refine And.intro (And.intro (by decide) (by decide)) ?_ | intro _ | refine And.intro rfl ?_ | refine onB_t (by with_reducible assumption) ?_ | refine onB_f (by with_reducible assumption) ?_) <;> (conv => whnf))
        exact ret_now _ (by rw [stE_n hc fun ho => by have := ho.2.2.2.2.2.2.2.2; rw [h2] at this; cases this])
      · (conv => whnf) <;> repeat ((first | refine SeqW.go ?_ | refine And.intro trivial ?_ | refine And.intro (And.intro (Nat.le_of_ble_eq_true rfl) (Nat.le_of_ble_eq_true rfl)) ?_ | refine And.intro (And.intro (Nat.le_of_ble_eq_true rfl) (oneRows_of rfl)) ?_ | refine And.intro (And.intro (Nat.eq_of_beq_eq_true rfl) (And.intro (oneRows_of rfl) (Nat.le_of_ble_eq_true rfl))) ?_ | refine And.intro (Nat.le_of_ble_eq_true rfl) ?_ | refine And.intro (And.intro (by omega) (by omega)) ?_ | refine And.intro (by omega) ?_ | refine And.intro (And.intro (by decide) (by decide)) ?_ | intro _ | refine And.intro rfl ?_ | refine onB_t (by with_reducible assumption) ?_ | refine onB_f (by with_reducible assumption) ?_) <;> (conv => whnf))
        exact ret_now _ (by rw [stE_y hc (hall (fun j hj => hT j (by omega)) h1 h2)])
theorem mem_incsA {a : Alloc} {x : Int} : ∀ {k : Nat}, k ≤ a.tasks.length → (x ∈ incsA a k ↔ x ≠ 0 ∧ ∃ t, t < k ∧ incT a t = x)
  | 0, _ => by simp [incsA]
  | k + 1, h => by
    rw [incsA_succ (by omega), List.mem_append, mem_incsA (k := k) (by omega)]
    constructor
    · rintro (⟨h1, t, h2, h3⟩ | h1)
      · exact ⟨h1, t, by omega, h3⟩
      · by_cases c : incT a k ≠ 0
        · rw [if_pos c, List.mem_singleton] at h1; exact ⟨h1 ▸ c, k, by omega, h1.symm⟩
        · rw [if_neg c] at h1; cases h1
    · rintro ⟨h1, t, h2, h3⟩
      rcases Nat.lt_succ_iff_lt_or_eq.1 h2 with h4 | h4
      · exact .inl ⟨h1, t, h4, h3⟩
      · subst h4; subst h3; right; rw [if_pos h1]; simp
theorem mem_incsL {l : List Alloc} {x : Int} : x ∈ incsL l ↔ x ≠ 0 ∧ ∃ i, i < l.length ∧ ∃ t, t < (l.getD i default).tasks.length ∧ incT (l.getD i default) t = x := by
  unfold incsL
  rw [List.mem_flatten]
  constructor
  · rintro ⟨m, hm, hx⟩
    obtain ⟨a, ha, rfl⟩ := List.mem_map.1 hm
    obtain ⟨i, hi, rfl⟩ := List.getElem_of_mem ha
    have e : l.getD i default = l[i] := by simp [List.getD_eq_getElem?_getD, hi]
    obtain ⟨h1, t, h2, h3⟩ := (mem_incsA (Nat.le_refl _)).1 hx
    exact ⟨h1, i, hi, t, by rw [e]; exact h2, by rw [e]; exact h3⟩
  · rintro ⟨h1, i, hi, t, h2, h3⟩
    have e : l.getD i default = l[i] := by simp [List.getD_eq_getElem?_getD, hi]
    rw [e] at h2 h3
    exact ⟨_, List.mem_map.2 ⟨l[i], List.getElem_mem hi, rfl⟩, (mem_incsA (Nat.le_refl _)).2 ⟨h1, t, h2, h3⟩⟩
def seenI (s : State) (k : Nat) (q : Int → Bool) : Prop := ∀ z, q z = true ↔ ∃ i, i < k ∧ ∃ t, t < (s.allocs.getD i default).tasks.length ∧ incT (s.allocs.getD i default) t = z
def seenF (s : State) (f : Alloc → Int) (k : Nat) (q : Int → Bool) : Prop := ∀ z, q z = true ↔ ∃ i, i < k ∧ f (s.allocs.getD i default) = z
theorem seenF_succ {s : State} {f : Alloc → Int} {k : Nat} {q : Int → Bool} (h : seenF s f k q) : seenF s f (k + 1) (fun z => bif decide (z = f (s.allocs.getD k default)) then true else q z) := fun z => by
  by_cases c : z = f (s.allocs.getD k default)
  · simp only [c, decide_true, cond_true, true_iff]
    exact ⟨k, by omega, rfl⟩
  · simp only [c, decide_false, cond_false, h z]
    constructor
    · rintro ⟨i, hi, e⟩; exact ⟨i, by omega, e⟩
    · rintro ⟨i, hi, e⟩
      rcases Nat.lt_succ_iff_lt_or_eq.1 hi with h1 | h1
      · exact ⟨i, h1, e⟩
      · rw [h1] at e; exact absurd e.symm c
theorem seenI_succ {s : State} {k : Nat} {q q2 : Int → Bool} (h : seenI s k q) (h2 : incMap (s.allocs.getD k default) q (s.allocs.getD k default).tasks.length q2) : seenI s (k + 1) q2 := fun z => by
  rw [h2 z, h z]
  constructor
  · rintro (⟨i, hi, e⟩ | ⟨t, ht, e⟩)
    · exact ⟨i, by omega, e⟩
    · exact ⟨k, by omega, t, ht, e⟩
  · rintro ⟨i, hi, t, ht, e⟩
    rcases Nat.lt_succ_iff_lt_or_eq.1 hi with h1 | h1
    · exact .inl ⟨i, h1, t, ht, e⟩
    · rw [h1] at ht e; exact .inr ⟨t, ht, e⟩
theorem incs_in {s : State} {k : Nat} (hk : k ≤ s.allocs.length) {x : Int} : x ∈ incsL (s.allocs.take k) ↔ x ≠ 0 ∧ ∃ i, i < k ∧ ∃ t, t < (s.allocs.getD i default).tasks.length ∧ incT (s.allocs.getD i default) t = x := by
  rw [mem_incsL]
  have e : ∀ i, i < k → (s.allocs.take k).getD i default = s.allocs.getD i default := fun i hi => by simp [List.getD_eq_getElem?_getD, List.getElem?_take, hi]
  have el : (s.allocs.take k).length = k := by simp; omega
  constructor
  · rintro ⟨h1, i, hi, t, h2, h3⟩
    rw [el] at hi
    rw [e i hi] at h2 h3
    exact ⟨h1, i, hi, t, h2, h3⟩
  · rintro ⟨h1, i, hi, t, h2, h3⟩
    exact ⟨h1, i, by omega, t, by rw [e i hi]; exact h2, by rw [e i hi]; exact h3⟩
/-- What the program looks at of the tasks, out of what the document says. -/
theorem tks_of {c : Config} {s : State} {k : Nat} {q : Int → Bool} (hk : k < s.allocs.length) (hq : seenI s k q) (ho : stOk c s) : tksOk (s.allocs.getD k default) s.next q := by
  obtain ⟨_, _, _, _, _, hap, hal, _⟩ := ho
  obtain ⟨_, _, _, _, _, h6, h7⟩ := hal k hk
  refine ⟨h6, fun j hj => ⟨h7 j hj, fun h0 => ?_⟩⟩
  have hn := nodup_pre hap.2 hk hj h0
  rw [List.mem_append, not_or] at hn
  refine ⟨?_, fun i hi e => hn.2 ((mem_incsA (by omega)).2 ⟨h0, i, hi, e⟩)⟩
  cases hb : q (incT (s.allocs.getD k default) j)
  · rfl
  · exact absurd ((incs_in (by omega)).2 ⟨h0, (hq _).1 hb⟩) hn.1
theorem nodupA {a : Alloc} {next : Int} {q : Int → Bool} (h : tksTo a next q a.tasks.length) : ∀ k, k ≤ a.tasks.length → (incsA a k).Nodup
  | 0, _ => by simp [incsA]
  | k + 1, hk => by
    rw [incsA_succ (by omega)]
    by_cases c : incT a k ≠ 0
    · rw [if_pos c]
      refine List.nodup_append.2 ⟨nodupA h k (by omega), by simp, fun x hx y hy e => ?_⟩
      rw [List.mem_singleton.1 hy] at e
      obtain ⟨_, t, ht, e2⟩ := (mem_incsA (by omega)).1 hx
      exact ((h k (by omega)).2 c).2 t ht (e2.trans e)
    · rw [if_neg c, List.append_nil]; exact nodupA h k (by omega)
/-- How far the program has come. -/
structure StI (c : Config) (s : State) (k : Nat) (p1 p2 p3 : Int → Bool) : Prop where
  le : k ≤ s.allocs.length
  al : ∀ j, j < k → allocOk c s (s.allocs.getD j default)
  pr : ∀ m, m < k → ∀ j, j < m → pairOk s m j
  nd : (incsL (s.allocs.take k)).Nodup
  q1 : seenF s Alloc.life k p1
  q2 : seenF s Alloc.slot k p2
  q3 : seenI s k p3
theorem StI.zero {c : Config} {s : State} : StI c s 0 (fun _ => false) (fun _ => false) (fun _ => false) :=
  ⟨Nat.zero_le _, fun j hj => absurd hj (Nat.not_lt_zero j), fun j hj => absurd hj (Nat.not_lt_zero j), List.nodup_nil, fun z => by simp, fun z => by simp, fun z => by simp⟩
theorem StI.next {c : Config} {s : State} {k : Nat} {p1 p2 p3 p4 : Int → Bool} (h : StI c s k p1 p2 p3) (hk : k < s.allocs.length) (h0 : 0 < k → (s.allocs.getD (k - 1) default).spec.id < (s.allocs.getD k default).spec.id)
    (h1 : specE (s.allocs.getD k default).spec = 0) (h2 : 1 ≤ (s.allocs.getD k default).life ∧ (s.allocs.getD k default).life < s.lives) (h3 : 0 ≤ (s.allocs.getD k default).slot ∧ (s.allocs.getD k default).slot < c.allocs)
    (h4 : p1 (s.allocs.getD k default).life = false) (h5 : p2 (s.allocs.getD k default).slot = false) (h6 : tksOk (s.allocs.getD k default) s.next p3) (h7 : incMap (s.allocs.getD k default) p3 (s.allocs.getD k default).tasks.length p4) :
    StI c s (k + 1) (fun z => bif decide (z = (s.allocs.getD k default).life) then true else p1 z) (fun z => bif decide (z = (s.allocs.getD k default).slot) then true else p2 z) p4 := by
  refine ⟨by omega, fun j hj => ?_, fun m hm j hj => ?_, ?_, seenF_succ h.q1, seenF_succ h.q2, seenI_succ h.q3 h7⟩
  · rcases Nat.lt_succ_iff_lt_or_eq.1 hj with e | e
    · exact h.al j e
    · rw [e]; exact ⟨h1, h2.1, h2.2, h3.1, h3.2, h6.1, fun t ht => (h6.2 t ht).1⟩
  · rcases Nat.lt_succ_iff_lt_or_eq.1 hm with e | e
    · exact h.pr m e j hj
    · subst e
      refine ⟨fun e => ?_, fun e => ?_, ?_⟩
      · rw [(h.q1 _).2 ⟨j, hj, e⟩] at h4; cases h4
      · rw [(h.q2 _).2 ⟨j, hj, e⟩] at h5; cases h5
      · have hl := h0 (by omega)
        rcases Nat.lt_or_ge j (m - 1) with e | e
        · have := (h.pr (m - 1) (by omega) j e).2.2; omega
        · obtain rfl : j = m - 1 := by omega
          exact hl
  · rw [takeS hk, incsL_snoc]
    refine List.nodup_append.2 ⟨h.nd, nodupA h6.2 _ (Nat.le_refl _), fun x hx y hy e => ?_⟩
    subst e
    obtain ⟨hx0, hx1⟩ := (incs_in (by omega)).1 hx
    obtain ⟨_, t, ht, e2⟩ := (mem_incsA (Nat.le_refl _)).1 hy
    have hb := (h.q3 x).2 hx1
    have := ((h6.2 t ht).2 (by rw [e2]; exact hx0)).1
    rw [e2, hb] at this; cases this
theorem specE_ports {s : Spec} (h : specE s = 0) : checkF s.ports = 0 := by
  refine Classical.byContradiction fun c => ?_
  unfold specE at h
  by_cases c1 : inR s.id 0 2147483648
  · by_cases c2 : s.res.ok
    · rw [if_neg (not_not_intro c1), if_neg (not_not_intro c2), if_pos c] at h
      exact c h
    · rw [if_neg (not_not_intro c1), if_pos c2] at h; cases h
  · rw [if_pos c1] at h; cases h
theorem chk_in : ∀ (l : List Int) (b : Int), chk b l = 0 → ∀ x ∈ l, 1 ≤ x ∧ x ≤ 65535
  | [], _, _, x, hx => by cases hx
  | p :: l, b, h, x, hx => by
    rw [chk_cons] at h
    by_cases c1 : p < 1 ∨ 65535 < p
    · rw [if_pos c1] at h; cases h
    · rw [if_neg c1] at h
      by_cases c2 : p ≤ b
      · rw [if_pos c2] at h; cases h
      · rw [if_neg c2] at h
        rcases List.mem_cons.1 hx with rfl | hx
        · omega
        · exact chk_in l p h x hx
theorem chk_mem {l : List Int} (h : checkF l = 0) : ∀ x ∈ l, 1 ≤ x ∧ x ≤ 65535 := by
  unfold checkF at h
  by_cases c : 8 < l.length
  · rw [if_pos c] at h; cases h
  · rw [if_neg c] at h; exact chk_in l 0 h
open Classical in
set_option maxHeartbeats 8000000 in
theorem stCheck_p (c : Config) (s : State) (hf : s.few) (hw : s.wfS) : Pure Tryz.prog 34 [c.av, s.av] (I (stE c s)) := by
  have hn := hf.1
  by_cases hc : c.ok
  case neg =>
    rw [stE_c hc]
    refine Pure.ev Tryz.f34 mx Tryz.func34 (by kernel_rfl) rfl rfl rfl ?_ <;> (conv => whnf) <;> repeat ((first | refine SeqW.go ?_ | refine And.intro trivial ?_ | refine And.intro (And.intro (Nat.le_of_ble_eq_true rfl) (Nat.le_of_ble_eq_true rfl)) ?_ | refine And.intro (And.intro (Nat.le_of_ble_eq_true rfl) (oneRows_of rfl)) ?_ | refine And.intro (And.intro (Nat.eq_of_beq_eq_true rfl) (And.intro (oneRows_of rfl) (Nat.le_of_ble_eq_true rfl))) ?_ | refine And.intro (Nat.le_of_ble_eq_true rfl) ?_ | refine And.intro (And.intro (by omega) (by omega)) ?_ | refine And.intro (by omega) ?_ | refine And.intro (And.intro (by decide) (by decide)) ?_ | intro _ | refine And.intro rfl ?_ | refine onB_t (by with_reducible assumption) ?_ | refine onB_f (by with_reducible assumption) ?_) <;> (conv => whnf))
    (first | refine Pure.call (config_p c) ?_ | refine ⟨_, config_p c, ?_⟩) <;> (conv => whnf) <;> repeat ((first | refine SeqW.go ?_ | refine And.intro trivial ?_ | refine And.intro (And.intro (Nat.le_of_ble_eq_true rfl) (Nat.le_of_ble_eq_true rfl)) ?_ | refine And.intro (And.intro (Nat.le_of_ble_eq_true rfl) (oneRows_of rfl)) ?_ | refine And.intro (And.intro (Nat.eq_of_beq_eq_true rfl) (And.intro (oneRows_of rfl) (Nat.le_of_ble_eq_true rfl))) ?_ | refine And.intro (Nat.le_of_ble_eq_true rfl) ?_ | refine And.intro (And.intro (by omega) (by omega)) ?_ | refine And.intro (by omega) ?_ | refine And.intro (And.intro (by decide) (by decide)) ?_ | intro _ | refine And.intro rfl ?_ | refine onB_t (by with_reducible assumption) ?_ | refine onB_f (by with_reducible assumption) ?_) <;> (conv => whnf))
    rw [eUn_n hc]
    (conv => whnf) <;> repeat ((first | refine SeqW.go ?_ | refine And.intro trivial ?_ | refine And.intro (And.intro (Nat.le_of_ble_eq_true rfl) (Nat.le_of_ble_eq_true rfl)) ?_ | refine And.intro (And.intro (Nat.le_of_ble_eq_true rfl) (oneRows_of rfl)) ?_ | refine And.intro (And.intro (Nat.eq_of_beq_eq_true rfl) (And.intro (oneRows_of rfl) (Nat.le_of_ble_eq_true rfl))) ?_ | refine And.intro (Nat.le_of_ble_eq_true rfl) ?_ | refine And.intro (And.intro (by omega) (by omega)) ?_ | refine And.intro (by omega) ?_ | refine And.intro (And.intro (by decide) (by decide)) ?_ | intro _ | refine And.intro rfl ?_ | refine onB_t (by with_reducible assumption) ?_ | refine onB_f (by with_reducible assumption) ?_) <;> (conv => whnf))
    exact ret_now _ rfl
  refine Pure.ev Tryz.f34 mx Tryz.func34 (by kernel_rfl) rfl rfl rfl ?_ <;> (conv => whnf) <;> repeat ((first | refine SeqW.go ?_ | refine And.intro trivial ?_ | refine And.intro (And.intro (Nat.le_of_ble_eq_true rfl) (Nat.le_of_ble_eq_true rfl)) ?_ | refine And.intro (And.intro (Nat.le_of_ble_eq_true rfl) (oneRows_of rfl)) ?_ | refine And.intro (And.intro (Nat.eq_of_beq_eq_true rfl) (And.intro (oneRows_of rfl) (Nat.le_of_ble_eq_true rfl))) ?_ | refine And.intro (Nat.le_of_ble_eq_true rfl) ?_ | refine And.intro (And.intro (by omega) (by omega)) ?_ | refine And.intro (by omega) ?_ | refine And.intro (And.intro (by decide) (by decide)) ?_ | intro _ | refine And.intro rfl ?_ | refine onB_t (by with_reducible assumption) ?_ | refine onB_f (by with_reducible assumption) ?_) <;> (conv => whnf))
  (first | refine Pure.call (config_p c) ?_ | refine ⟨_, config_p c, ?_⟩) <;> (conv => whnf) <;> repeat ((first | refine SeqW.go ?_ | refine And.intro trivial ?_ | refine And.intro (And.intro (Nat.le_of_ble_eq_true rfl) (Nat.le_of_ble_eq_true rfl)) ?_ | refine And.intro (And.intro (Nat.le_of_ble_eq_true rfl) (oneRows_of rfl)) ?_ | refine And.intro (And.intro (Nat.eq_of_beq_eq_true rfl) (And.intro (oneRows_of rfl) (Nat.le_of_ble_eq_true rfl))) ?_ | refine And.intro (Nat.le_of_ble_eq_true rfl) ?_ | refine And.intro (And.intro (by omega) (by omega)) ?_ | refine And.intro (by omega) ?_ | refine And.intro (And.intro (by decide) (by decide)) ?_ | intro _ | refine And.intro rfl ?_ | refine onB_t (by with_reducible assumption) ?_ | refine onB_f (by with_reducible assumption) ?_) <;> (conv => whnf))
  rw [eUn_y hc]
  (conv => whnf) <;> repeat ((first | refine SeqW.go ?_ | refine And.intro trivial ?_ | refine And.intro (And.intro (Nat.le_of_ble_eq_true rfl) (Nat.le_of_ble_eq_true rfl)) ?_ | refine And.intro (And.intro (Nat.le_of_ble_eq_true rfl) (oneRows_of rfl)) ?_ | refine And.intro (And.intro (Nat.eq_of_beq_eq_true rfl) (And.intro (oneRows_of rfl) (Nat.le_of_ble_eq_true rfl))) ?_ | refine And.intro (Nat.le_of_ble_eq_true rfl) ?_ | refine And.intro (And.intro (by omega) (by omega)) ?_ | refine And.intro (by omega) ?_ | refine And.intro (And.intro (by decide) (by decide)) ?_ | intro _ | refine And.intro rfl ?_ | refine onB_t (by with_reducible assumption) ?_ | refine onB_f (by with_reducible assumption) ?_) <;> (conv => whnf))
  repeat' (first
    | ((refine onB_mk (fun hr => ?_) (fun hr => ?_) <;> (have h := hr) <;> (try simp [-List.getD_eq_getElem?_getD, wl, List.getD_cons_zero, List.getD_cons_succ] at h) <;> (conv => whnf) <;> repeat ((first | refine SeqW.go ?_ | refine And.intro trivial ?_ | refine And.intro (And.intro (Nat.le_of_ble_eq_true rfl) (Nat.le_of_ble_eq_true rfl)) ?_ | refine And.intro (And.intro (Nat.le_of_ble_eq_true rfl) (oneRows_of rfl)) ?_ | refine And.intro (And.intro (Nat.eq_of_beq_eq_true rfl) (And.intro (oneRows_of rfl) (Nat.le_of_ble_eq_true rfl))) ?_ | refine And.intro (Nat.le_of_ble_eq_true rfl) ?_ | refine And.intro (And.intro (by omega) (by omega)) ?_ | refine And.intro (by omega) ?_ | refine And.intro (And.intro (by decide) (by decide)) ?_ | intro _ | refine And.intro rfl ?_ | refine onB_t (by with_reducible assumption) ?_ | refine onB_f (by with_reducible assumption) ?_) <;> (conv => whnf))))
    | ((first | refine Pure.call (from20_p _ _ _) ?_ | refine ⟨_, from20_p _ _ _, ?_⟩) <;> (conv => whnf) <;> repeat ((first | refine SeqW.go ?_ | refine And.intro trivial ?_ | refine And.intro (And.intro (Nat.le_of_ble_eq_true rfl) (Nat.le_of_ble_eq_true rfl)) ?_ | refine And.intro (And.intro (Nat.le_of_ble_eq_true rfl) (oneRows_of rfl)) ?_ | refine And.intro (And.intro (Nat.eq_of_beq_eq_true rfl) (And.intro (oneRows_of rfl) (Nat.le_of_ble_eq_true rfl))) ?_ | refine And.intro (Nat.le_of_ble_eq_true rfl) ?_ | refine And.intro (And.intro (by omega) (by omega)) ?_ | refine And.intro (by omega) ?_ | refine And.intro (And.intro (by decide) (by decide)) ?_ | intro _ | refine And.intro rfl ?_ | refine onB_t (by with_reducible assumption) ?_ | refine onB_f (by with_reducible assumption) ?_) <;> (conv => whnf))))
  all_goals first
    | exact ret_now _ (by rw [stE_n hc fun ho => by obtain ⟨h1, h2, h3, h4, h5, h6, h7⟩ := ho; unfold inR at *; first | omega | contradiction])
    | skip
  have b1 : inR s.epoch 0 1099511627776 := by assumption
  have b2 : inR s.next 1 1099511627776 := by assumption
  have b3 : inR s.lives 1 1099511627776 := by assumption
  have b4 : inR s.ack (-1) 1099511627776 := by assumption
  have b5 : (s.allocs.length : Int) ≤ c.allocs := by assumption
  have el : IntKind.i64.wrap (s.lives - 1) = s.lives - 1 := wrap_id (by unfold inR at b3; omega) (by unfold inR at b3; omega)
  have ec : IntKind.i64.wrap (c.allocs - 1) = c.allocs - 1 := wrap_id (by have := hc.2.1; unfold inR at this; omega) (by have := hc.2.1; unfold inR at this; omega)
  refine loop_st (S := Nat × (Int → Bool) × (Int → Bool) × (Int → Bool)) (fun z => [(2, .hptr 0 11 0 0), (3, .hptr 1 5 0 0), (6, .mp 2), (7, .mp 3), (8, .mp 4), (50, .sl 10 s.allocs.length fun i => Alloc.fv (s.allocs.getD i default)), (51, I s.allocs.length), (52, I z.1)])
    (fun z => ⟨5, [(4, some (mapB z.2.2.2)), (3, some (mapB z.2.2.1)), (2, some (mapB z.2.1)), (1, some ⟨5, [s.fv.map FV.up], none⟩), (0, some ⟨11, [c.fv.map FV.up], none⟩)]⟩)
    (fun z => StI c s z.1 z.2.1 z.2.2.1 z.2.2.2) (fun z => s.allocs.length - z.1) (0, (fun _ => false), (fun _ => false), (fun _ => false))
    (Wk.cut rfl ⟨⟨rfl, rfl⟩, ⟨rfl, rfl⟩, ⟨rfl, rfl⟩, ⟨rfl, rfl⟩, ⟨rfl, rfl⟩, ⟨rfl, rfl⟩, ⟨rfl, rfl⟩, ⟨rfl, rfl⟩, trivial⟩ ⟨⟨rfl, rfl, nofun, nofun⟩, ⟨rfl, rfl, nofun, nofun⟩, ⟨rfl, rfl, nofun, nofun⟩, ⟨rfl, rfl, row1 rfl, nofun⟩, ⟨rfl, rfl, row1 rfl, nofun⟩, trivial⟩) StI.zero ?_
  rintro ⟨k, p1, p2, p3⟩ hI
  dsimp only at hI
  have hk := hI.le
  (conv => whnf) <;> repeat ((first | refine SeqW.go ?_ | refine And.intro trivial ?_ | refine And.intro (And.intro (Nat.le_of_ble_eq_true rfl) (Nat.le_of_ble_eq_true rfl)) ?_ | refine And.intro (And.intro (Nat.le_of_ble_eq_true rfl) (oneRows_of rfl)) ?_ | refine And.intro (And.intro (Nat.eq_of_beq_eq_true rfl) (And.intro (oneRows_of rfl) (Nat.le_of_ble_eq_true rfl))) ?_ | refine And.intro (Nat.le_of_ble_eq_true rfl) ?_ | refine And.intro (And.intro (by omega) (by omega)) ?_ | refine And.intro (by omega) ?_ | refine And.intro (And.intro (by decide) (by decide)) ?_ | intro _ | refine And.intro rfl ?_ | refine onB_t (by with_reducible assumption) ?_ | refine onB_f (by with_reducible assumption) ?_) <;> (conv => whnf))
  (refine onB_mk (fun hr => ?_) (fun hr => ?_) <;> (have h := hr) <;> (try simp [-List.getD_eq_getElem?_getD, wl, List.getD_cons_zero, List.getD_cons_succ] at h) <;> (conv => whnf) <;> repeat ((first | refine SeqW.go ?_ | refine And.intro trivial ?_ | refine And.intro (And.intro (Nat.le_of_ble_eq_true rfl) (Nat.le_of_ble_eq_true rfl)) ?_ | refine And.intro (And.intro (Nat.le_of_ble_eq_true rfl) (oneRows_of rfl)) ?_ | refine And.intro (And.intro (Nat.eq_of_beq_eq_true rfl) (And.intro (oneRows_of rfl) (Nat.le_of_ble_eq_true rfl))) ?_ | refine And.intro (Nat.le_of_ble_eq_true rfl) ?_ | refine And.intro (And.intro (by omega) (by omega)) ?_ | refine And.intro (by omega) ?_ | refine And.intro (And.intro (by decide) (by decide)) ?_ | intro _ | refine And.intro rfl ?_ | refine onB_t (by with_reducible assumption) ?_ | refine onB_f (by with_reducible assumption) ?_) <;> (conv => whnf)))
  · have hk2 : k < s.allocs.length := h
    have n1 : 0 < k → ¬ (s.allocs.getD (k - 1) default).spec.id < (s.allocs.getD k default).spec.id → ¬ stOk c s := fun h0 h1 ho => h1 (ho.2.2.2.2.2.1.1 k hk2 (k - 1) (by omega)).2.2
    have n2 : ¬ specE (s.allocs.getD k default).spec = 0 → ¬ stOk c s := fun h1 ho => h1 (ho.2.2.2.2.2.2.1 k hk2).1
    have n3 : ¬ inR (s.allocs.getD k default).life 1 (IntKind.i64.wrap (s.lives - 1)) → ¬ stOk c s := fun h1 ho => h1 (by have := ho.2.2.2.2.2.2.1 k hk2; rw [el]; unfold inR; exact ⟨this.2.1, by have := this.2.2.1; omega⟩)
    have n4 : ¬ inR (s.allocs.getD k default).slot 0 (IntKind.i64.wrap (c.allocs - 1)) → ¬ stOk c s := fun h1 ho => h1 (by have := ho.2.2.2.2.2.2.1 k hk2; rw [ec]; unfold inR; exact ⟨this.2.2.2.1, by have := this.2.2.2.2.1; omega⟩)
    have n5 : p1 (s.allocs.getD k default).life = true → ¬ stOk c s := fun h1 ho => by
      obtain ⟨i, hi, e⟩ := (hI.q1 _).1 h1
      exact (ho.2.2.2.2.2.1.1 k hk2 i hi).1 e
    have n6 : p2 (s.allocs.getD k default).slot = true → ¬ stOk c s := fun h1 ho => by
      obtain ⟨i, hi, e⟩ := (hI.q2 _).1 h1
      exact (ho.2.2.2.2.2.1.1 k hk2 i hi).2.1 e
    have n7 : ¬ tksOk (s.allocs.getD k default) s.next p3 → ¬ stOk c s := fun h1 ho => h1 (tks_of hk2 hI.q3 ho)
    have g3 : inR (s.allocs.getD k default).life 1 (IntKind.i64.wrap (s.lives - 1)) → 1 ≤ (s.allocs.getD k default).life ∧ (s.allocs.getD k default).life < s.lives := fun h => by rw [el] at h; unfold inR at h; omega
    have g4 : inR (s.allocs.getD k default).slot 0 (IntKind.i64.wrap (c.allocs - 1)) → 0 ≤ (s.allocs.getD k default).slot ∧ (s.allocs.getD k default).slot < c.allocs := fun h => by rw [ec] at h; unfold inR at h; omega
    have hT := tasks_a (s.allocs.getD k default) s.next p3 (hw k)
    clear b1 b2 b3 b4 b5 el ec
    repeat' (first
      | ((refine onB_mk (fun hr => ?_) (fun hr => ?_) <;> (have h := hr) <;> (try simp [-List.getD_eq_getElem?_getD, wl, List.getD_cons_zero, List.getD_cons_succ] at h) <;> (conv => whnf) <;> repeat ((first | refine SeqW.go ?_ | refine And.intro trivial ?_ | refine And.intro (And.intro (Nat.le_of_ble_eq_true rfl) (Nat.le_of_ble_eq_true rfl)) ?_ | refine And.intro (And.intro (Nat.le_of_ble_eq_true rfl) (oneRows_of rfl)) ?_ | refine And.intro (And.intro (Nat.eq_of_beq_eq_true rfl) (And.intro (oneRows_of rfl) (Nat.le_of_ble_eq_true rfl))) ?_ | refine And.intro (Nat.le_of_ble_eq_true rfl) ?_ | refine And.intro (And.intro (by omega) (by omega)) ?_ | refine And.intro (by omega) ?_ | refine And.intro (And.intro (by decide) (by decide)) ?_ | intro _ | refine And.intro rfl ?_ | refine onB_t (by with_reducible assumption) ?_ | refine onB_f (by with_reducible assumption) ?_) <;> (conv => whnf))))
      | (rw [wrapP (n := k) (by omega) (by omega)] <;> (conv => whnf) <;> repeat ((first | refine SeqW.go ?_ | refine And.intro trivial ?_ | refine And.intro (And.intro (Nat.le_of_ble_eq_true rfl) (Nat.le_of_ble_eq_true rfl)) ?_ | refine And.intro (And.intro (Nat.le_of_ble_eq_true rfl) (oneRows_of rfl)) ?_ | refine And.intro (And.intro (Nat.eq_of_beq_eq_true rfl) (And.intro (oneRows_of rfl) (Nat.le_of_ble_eq_true rfl))) ?_ | refine And.intro (Nat.le_of_ble_eq_true rfl) ?_ | refine And.intro (And.intro (by omega) (by omega)) ?_ | refine And.intro (by omega) ?_ | refine And.intro (And.intro (by decide) (by decide)) ?_ | intro _ | refine And.intro rfl ?_ | refine onB_t (by with_reducible assumption) ?_ | refine onB_f (by with_reducible assumption) ?_) <;> (conv => whnf)))
      | ((first | refine Pure.call (specCheck_p _) ?_ | refine ⟨_, specCheck_p _, ?_⟩) <;> (conv => whnf) <;> repeat ((first | refine SeqW.go ?_ | refine And.intro trivial ?_ | refine And.intro (And.intro (Nat.le_of_ble_eq_true rfl) (Nat.le_of_ble_eq_true rfl)) ?_ | refine And.intro (And.intro (Nat.le_of_ble_eq_true rfl) (oneRows_of rfl)) ?_ | refine And.intro (And.intro (Nat.eq_of_beq_eq_true rfl) (And.intro (oneRows_of rfl) (Nat.le_of_ble_eq_true rfl))) ?_ | refine And.intro (Nat.le_of_ble_eq_true rfl) ?_ | refine And.intro (And.intro (by omega) (by omega)) ?_ | refine And.intro (by omega) ?_ | refine And.intro (And.intro (by decide) (by decide)) ?_ | intro _ | refine And.intro rfl ?_ | refine onB_t (by with_reducible assumption) ?_ | refine onB_f (by with_reducible assumption) ?_) <;> (conv => whnf)))
      | ((first | refine Pure.call (from20_p _ _ _) ?_ | refine ⟨_, from20_p _ _ _, ?_⟩) <;> (conv => whnf) <;> repeat ((first | refine SeqW.go ?_ | refine And.intro trivial ?_ | refine And.intro (And.intro (Nat.le_of_ble_eq_true rfl) (Nat.le_of_ble_eq_true rfl)) ?_ | refine And.intro (And.intro (Nat.le_of_ble_eq_true rfl) (oneRows_of rfl)) ?_ | refine And.intro (And.intro (Nat.eq_of_beq_eq_true rfl) (And.intro (oneRows_of rfl) (Nat.le_of_ble_eq_true rfl))) ?_ | refine And.intro (Nat.le_of_ble_eq_true rfl) ?_ | refine And.intro (And.intro (by omega) (by omega)) ?_ | refine And.intro (by omega) ?_ | refine And.intro (And.intro (by decide) (by decide)) ?_ | intro _ | refine And.intro rfl ?_ | refine onB_t (by with_reducible assumption) ?_ | refine onB_f (by with_reducible assumption) ?_) <;> (conv => whnf))))
    all_goals (try simp only [toNat_nat] at *)
    all_goals first
      | exact ret_now _ (by rw [stE_n hc (n1 (by omega) (by omega))])
      | exact ret_now _ (by rw [stE_n hc (n2 h)])
      | exact ret_now _ (by rw [stE_n hc (n3 h)])
      | exact ret_now _ (by rw [stE_n hc (n4 h)])
      | exact ret_now _ (by rw [stE_n hc (n5 h)])
      | exact ret_now _ (by rw [stE_n hc (n6 h)])
      | exact ret_now _ (by rw [stE_n hc (n7 h)])
      | skip
    all_goals (refine ACalls.frame [4] hT rfl rfl (by simp) rfl rfl ⟨⟨rfl, _, rfl, .inl ⟨rfl, nofun⟩, nofun⟩, trivial⟩ ?_)
    all_goals (rintro x H' hle ⟨q, rfl, rfl, hq⟩)
    all_goals (refine ⟨rfl, [(4, some (mapB q))], ⟨⟨rfl, rfl, .inl ⟨rfl, nofun⟩, .inl ⟨rfl, nofun⟩⟩, trivial⟩, ?_⟩)
    all_goals (conv => whnf) <;> repeat ((first | refine SeqW.go ?_ | refine And.intro trivial ?_ | refine And.intro (And.intro (Nat.le_of_ble_eq_true rfl) (Nat.le_of_ble_eq_true rfl)) ?_ | refine And.intro (And.intro (Nat.le_of_ble_eq_true rfl) (oneRows_of rfl)) ?_ | refine And.intro (And.intro (Nat.eq_of_beq_eq_true rfl) (And.intro (oneRows_of rfl) (Nat.le_of_ble_eq_true rfl))) ?_ | refine And.intro (Nat.le_of_ble_eq_true rfl) ?_ | refine And.intro (And.intro (by omega) (by omega)) ?_ | refine And.intro (by omega) ?_ | refine And.intro (And.intro (by decide) (by decide)) ?_ | intro _ | refine And.intro rfl ?_ | refine onB_t (by with_reducible assumption) ?_ | refine onB_f (by with_reducible assumption) ?_) <;> (conv => whnf))
    all_goals ((refine onB_mk (fun hr => ?_) (fun hr => ?_) <;> (have h := hr) <;> (try simp [-List.getD_eq_getElem?_getD, wl, List.getD_cons_zero, List.getD_cons_succ] at h) <;> (conv => whnf) <;> repeat ((first | refine SeqW.go ?_ | refine And.intro trivial ?_ | refine And.intro (And.intro (Nat.le_of_ble_eq_true rfl) (Nat.le_of_ble_eq_true rfl)) ?_ | refine And.intro (And.intro (Nat.le_of_ble_eq_true rfl) (oneRows_of rfl)) ?_ | refine And.intro (And.intro (Nat.eq_of_beq_eq_true rfl) (And.intro (oneRows_of rfl) (Nat.le_of_ble_eq_true rfl))) ?_ | refine And.intro (Nat.le_of_ble_eq_true rfl) ?_ | refine And.intro (And.intro (by omega) (by omega)) ?_ | refine And.intro (by omega) ?_ | refine And.intro (And.intro (by decide) (by decide)) ?_ | intro _ | refine And.intro rfl ?_ | refine onB_t (by with_reducible assumption) ?_ | refine onB_f (by with_reducible assumption) ?_) <;> (conv => whnf))))
    all_goals first
      | exact ret_now _ (by rw [stE_n hc (n7 h)])
      | exact ⟨(k + 1, _, _, q), by dsimp only; omega, hI.next hk2 (fun h0 => by omega) (by assumption) (g3 (by assumption)) (g4 (by assumption)) (by assumption) (by assumption) h (hq h), Wk.cut rfl ⟨⟨rfl, rfl⟩, ⟨rfl, rfl⟩, ⟨rfl, rfl⟩, ⟨rfl, rfl⟩, ⟨rfl, rfl⟩, ⟨rfl, rfl⟩, ⟨rfl, rfl⟩, ⟨by simp only [← wrapS (show k < 9223372036854775807 by omega)]; rfl, rfl⟩, trivial⟩
          ⟨⟨rfl, rfl, nofun, nofun⟩, ⟨rfl, rfl, nofun, nofun⟩, ⟨rfl, rfl, nofun, nofun⟩, ⟨rfl, rfl, row1 rfl, nofun⟩, ⟨rfl, rfl, row1 rfl, nofun⟩, trivial⟩⟩
  · have hkl : k = s.allocs.length := by omega
    subst hkl
    have hap : apartOk s := ⟨hI.pr, by have := hI.nd; rwa [List.take_length] at this⟩
    have hR : roomB c (⟨0, 0, 0⟩ :: usedR s.allocs) = roomB c (usedR s.allocs) := by
      unfold roomB
      rw [sumR_cons, if_pos ⟨res0_ok, res0_ok⟩]; rfl
    have hrm := room_p c s ⟨0, 0, 0⟩ (by omega)
    have hpo : ∀ i, i < s.allocs.length → checkF (s.allocs.getD i default).spec.ports = 0 := fun i hi => specE_ports (hI.al i hi).1
    have hax := apart_p s (by omega) (fun i hi => by have := (hf.2 i).2.2.1; omega) (fun i hi x hx => wf_int (by have := chk_mem (hpo i hi) x hx; omega))
    rw [hR] at hrm
    (first | refine Pure.call (hrm) ?_ | refine ⟨_, hrm, ?_⟩) <;> (conv => whnf) <;> repeat ((first | refine SeqW.go ?_ | refine And.intro trivial ?_ | refine And.intro (And.intro (Nat.le_of_ble_eq_true rfl) (Nat.le_of_ble_eq_true rfl)) ?_ | refine And.intro (And.intro (Nat.le_of_ble_eq_true rfl) (oneRows_of rfl)) ?_ | refine And.intro (And.intro (Nat.eq_of_beq_eq_true rfl) (And.intro (oneRows_of rfl) (Nat.le_of_ble_eq_true rfl))) ?_ | refine And.intro (Nat.le_of_ble_eq_true rfl) ?_ | refine And.intro (And.intro (by omega) (by omega)) ?_ | refine And.intro (by omega) ?_ | refine And.intro (And.intro (by decide) (by decide)) ?_ | intro _ | refine And.intro rfl ?_ | refine onB_t (by with_reducible assumption) ?_ | refine onB_f (by with_reducible assumption) ?_) <;> (conv => whnf))
    cases h1 : roomB c (usedR s.allocs)
    · (conv => whnf) <;> repeat ((first | refine SeqW.go ?_ | refine And.intro trivial ?_ | refine And.intro (And.intro (Nat.le_of_ble_eq_true rfl) (Nat.le_of_ble_eq_true rfl)) ?_ | refine And.intro (And.intro (Nat.le_of_ble_eq_true rfl) (oneRows_of rfl)) ?_ | refine And.intro (And.intro (Nat.eq_of_beq_eq_true rfl) (And.intro (oneRows_of rfl) (Nat.le_of_ble_eq_true rfl))) ?_ | refine And.intro (Nat.le_of_ble_eq_true rfl) ?_ | refine And.intro (And.intro (by omega) (by omega)) ?_ | refine And.intro (by omega) ?_ | refine And.intro (And.intro (by decide) (by decide)) ?_ | intro _ | refine And.intro rfl ?_ | refine onB_t (by with_reducible assumption) ?_ | refine onB_f (by with_reducible assumption) ?_) <;> (conv => whnf))
      exact ret_now _ (by rw [stE_n hc fun ho => by have := ho.2.2.2.2.2.2.2.1; rw [h1] at this; cases this])
    · (conv => whnf) <;> repeat ((first | refine SeqW.go ?_ | refine And.intro trivial ?_ | refine And.intro (And.intro (Nat.le_of_ble_eq_true rfl) (Nat.le_of_ble_eq_true rfl)) ?_ | refine And.intro (And.intro (Nat.le_of_ble_eq_true rfl) (oneRows_of rfl)) ?_ | refine And.intro (And.intro (Nat.eq_of_beq_eq_true rfl) (And.intro (oneRows_of rfl) (Nat.le_of_ble_eq_true rfl))) ?_ | refine And.intro (Nat.le_of_ble_eq_true rfl) ?_ | refine And.intro (And.intro (by omega) (by omega)) ?_ | refine And.intro (by omega) ?_ | refine And.intro (And.intro (by decide) (by decide)) ?_ | intro _ | refine And.intro rfl ?_ | refine onB_t (by with_reducible assumption) ?_ | refine onB_f (by with_reducible assumption) ?_) <;> (conv => whnf))
      (first | refine Pure.call (hax) ?_ | refine ⟨_, hax, ?_⟩) <;> (conv => whnf) <;> repeat ((first | refine SeqW.go ?_ | refine And.intro trivial ?_ | refine And.intro (And.intro (Nat.le_of_ble_eq_true rfl) (Nat.le_of_ble_eq_true rfl)) ?_ | refine And.intro (And.intro (Nat.le_of_ble_eq_true rfl) (oneRows_of rfl)) ?_ | refine And.intro (And.intro (Nat.eq_of_beq_eq_true rfl) (And.intro (oneRows_of rfl) (Nat.le_of_ble_eq_true rfl))) ?_ | refine And.intro (Nat.le_of_ble_eq_true rfl) ?_ | refine And.intro (And.intro (by omega) (by omega)) ?_ | refine And.intro (by omega) ?_ | refine And.intro (And.intro (by decide) (by decide)) ?_ | intro _ | refine And.intro rfl ?_ | refine onB_t (by with_reducible assumption) ?_ | refine onB_f (by with_reducible assumption) ?_) <;> (conv => whnf))
      cases h2 : pdisB (usedP s.allocs)
      · (conv => whnf) <;> repeat ((first | refine SeqW.go ?_ | refine And.intro trivial ?_ | refine And.intro (And.intro (Nat.le_of_ble_eq_true rfl) (Nat.le_of_ble_eq_true rfl)) ?_ | refine And.intro (And.intro (Nat.le_of_ble_eq_true rfl) (oneRows_of rfl)) ?_ | refine And.intro (And.intro (Nat.eq_of_beq_eq_true rfl) (And.intro (oneRows_of rfl) (Nat.le_of_ble_eq_true rfl))) ?_ | refine And.intro (Nat.le_of_ble_eq_true rfl) ?_ | refine And.intro (And.intro (by omega) (by omega)) ?_ | refine And.intro (by omega) ?_ | refine And.intro (And.intro (by decide) (by decide)) ?_ | intro _ | refine And.intro rfl ?_ | refine onB_t (by with_reducible assumption) ?_ | refine onB_f (by with_reducible assumption) ?_) <;> (conv => whnf))
        exact ret_now _ (by rw [stE_n hc fun ho => by have := ho.2.2.2.2.2.2.2.2; rw [h2] at this; cases this])
      · (conv => whnf) <;> repeat ((first | refine SeqW.go ?_ | refine And.intro trivial ?_ | refine And.intro (And.intro (Nat.le_of_ble_eq_true rfl) (Nat.le_of_ble_eq_true rfl)) ?_ | refine And.intro (And.intro (Nat.le_of_ble_eq_true rfl) (oneRows_of rfl)) ?_ | refine And.intro (And.intro (Nat.eq_of_beq_eq_true rfl) (And.intro (oneRows_of rfl) (Nat.le_of_ble_eq_true rfl))) ?_ | refine And.intro (Nat.le_of_ble_eq_true rfl) ?_ | refine And.intro (And.intro (by omega) (by omega)) ?_ | refine And.intro (by omega) ?_ | refine And.intro (And.intro (by decide) (by decide)) ?_ | intro _ | refine And.intro rfl ?_ | refine onB_t (by with_reducible assumption) ?_ | refine onB_f (by with_reducible assumption) ?_) <;> (conv => whnf))
        exact ret_now _ (by rw [stE_y hc ⟨b1, b2, b3, b4, b5, hap, hI.al, h1, h2⟩])
end Go.Proofs.YtajpldeffhagaaaGreat
