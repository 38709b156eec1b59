/- The tasks of an allocation. The reference's test of allocations, and that they have nothing in common. The reference: no two allocations have something in common. -/
import Derived.Test.YtajpldeffhagaaaGreatM4
namespace Go.Proofs.YtajpldeffhagaaaGreat
open Go.RowKit E
set_option maxRecDepth 100000
set_option linter.unusedVariables false
set_option linter.unusedSimpArgs false
def endsT (st : Int) : Prop := st = 4 ∨ st = 5 ∨ overT st
def endOk (stop : Bool) (st : Int) : Prop := (stop = true → endsT st) ∧ (stop = false → st ≠ 4)
def tkOk (a : Alloc) (next : Int) (t : Task) : Prop := errT t = 0 ∧ t.inc < next ∧ endOk a.stop t.state
def incT (a : Alloc) (j : Nat) : Int := (a.tasks.getD j default).inc
def tksTo (a : Alloc) (next : Int) (p : Int → Bool) (k : Nat) : Prop := ∀ j, j < k → tkOk a next (a.tasks.getD j default) ∧ (incT a j ≠ 0 → p (incT a j) = false ∧ ∀ i, i < j → incT a i ≠ incT a j)
def tksOk (a : Alloc) (next : Int) (p : Int → Bool) : Prop := a.tasks.length = a.spec.tasks.length ∧ tksTo a next p a.tasks.length
def incMap (a : Alloc) (p : Int → Bool) (k : Nat) (q : Int → Bool) : Prop := ∀ z, q z = true ↔ p z = true ∨ ∃ i, i < k ∧ incT a i = z
theorem tksTo_succ {a : Alloc} {next : Int} {p : Int → Bool} {k : Nat} (h : tksTo a next p k) (h1 : tkOk a next (a.tasks.getD k default)) (h2 : incT a k ≠ 0 → p (incT a k) = false ∧ ∀ i, i < k → incT a i ≠ incT a k) : tksTo a next p (k + 1) := fun j hj => by
  rcases Nat.lt_succ_iff_lt_or_eq.1 hj with h3 | rfl
  · exact h j h3
  · exact ⟨h1, h2⟩
abbrev mapB (p : Int → Bool) : Blk := ⟨0, [], some (.bset .i64 p)⟩
theorem ret_map {n0 : Nat} {x : AV} {H : Hp} {K : AV → Hp → Prop} (q : Int → Bool) (hx : x.bd 1 = true) (hn : Nat.ble n0 1 = true) (hg : H.get 0 = some (mapB q)) (hk : K x ⟨1, [(0, some (mapB q))]⟩) : ∃ x1 H1, Wk n0 [(0, x)] H [(0, x1)] H1 ∧ K x1 H1 :=
  ⟨x, ⟨1, [(0, some (mapB q))]⟩, Wk.cut hn ⟨⟨rfl, hx⟩, trivial⟩ ⟨⟨hg, rfl, nofun, nofun⟩, trivial⟩, hk⟩
open Classical in
set_option maxHeartbeats 4000000 in
theorem tasks_a (a : Alloc) (next : Int) (p : Int → Bool) (hs : ∀ j, 0 ≤ (a.tasks.getD j default).state) :
    E.ACalls Tryz.prog 59 [a.av, I next, .mp 0] ⟨1, [(0, some (mapB p))]⟩ fun x H' => ∃ q, x = B (decide (tksOk a next p)) ∧ H' = ⟨1, [(0, some (mapB q))]⟩ ∧ (tksOk a next p → incMap a p a.tasks.length q) := by
  refine ACalls.ev Tryz.f59 mx Tryz.func59 (by kernel_rfl) rfl ?_ <;> (conv => whnf) <;> repeat ((first | refine SeqW.go ?_ | refine And.intro trivial ?_ | refine And.intro (And.intro (Nat.le_of_ble_eq_true rfl) (Nat.le_of_ble_eq_true rfl)) ?_ | refine And.intro (And.intro (Nat.le_of_ble_eq_true rfl) (oneRows_of rfl)) ?_ | refine And.intro (And.intro (Nat.eq_of_beq_eq_true rfl) (And.intro (oneRows_of rfl) (Nat.le_of_ble_eq_true rfl))) ?_ | refine And.intro (Nat.le_of_ble_eq_true rfl) ?_ | refine And.intro (And.intro (by omega) (by omega)) ?_ | refine And.intro (by omega) ?_ | refine And.intro (And.intro (by decide) (by decide)) ?_ | intro _ | refine And.intro rfl ?_ | refine onB_t (by with_reducible assumption) ?_ | refine onB_f (by with_reducible assumption) ?_) <;> (conv => whnf))
  (refine onB_mk (fun hr => ?_) (fun hr => ?_) <;> (have h := hr) <;> (try simp [-List.getD_eq_getElem?_getD, wl, List.getD_cons_zero, List.getD_cons_succ] at h) <;> (conv => whnf) <;> repeat ((first | refine SeqW.go ?_ | refine And.intro trivial ?_ | refine And.intro (And.intro (Nat.le_of_ble_eq_true rfl) (Nat.le_of_ble_eq_true rfl)) ?_ | refine And.intro (And.intro (Nat.le_of_ble_eq_true rfl) (oneRows_of rfl)) ?_ | refine And.intro (And.intro (Nat.eq_of_beq_eq_true rfl) (And.intro (oneRows_of rfl) (Nat.le_of_ble_eq_true rfl))) ?_ | refine And.intro (Nat.le_of_ble_eq_true rfl) ?_ | refine And.intro (And.intro (by omega) (by omega)) ?_ | refine And.intro (by omega) ?_ | refine And.intro (And.intro (by decide) (by decide)) ?_ | intro _ | refine And.intro rfl ?_ | refine onB_t (by with_reducible assumption) ?_ | refine onB_f (by with_reducible assumption) ?_) <;> (conv => whnf)))
  · exact ret_map p rfl rfl rfl ⟨p, by_f fun ho => by have := ho.1; omega, rfl, fun ho => by have := ho.1; omega⟩
  · have hl : a.tasks.length = a.spec.tasks.length := by omega
    refine loop_st (S := Nat × (Int → Bool)) (fun z => [(1, I next), (2, .mp 0), (3, .hptr 1 10 0 0), (19, .sl 8 a.tasks.length fun i => Task.fv (a.tasks.getD i default)), (20, I a.tasks.length), (21, I z.1)])
      (fun z => ⟨2, [(1, some ⟨10, [a.fv.map FV.up], none⟩), (0, some (mapB z.2))]⟩) (fun z => z.1 ≤ a.tasks.length ∧ tksTo a next p z.1 ∧ incMap a p z.1 z.2) (fun z => a.tasks.length - z.1) (0, p)
      (Wk.cut rfl ⟨⟨rfl, rfl⟩, ⟨rfl, rfl⟩, ⟨rfl, rfl⟩, ⟨rfl, rfl⟩, ⟨rfl, rfl⟩, ⟨rfl, rfl⟩, trivial⟩ ⟨⟨rfl, rfl, row1 rfl, nofun⟩, ⟨rfl, rfl, nofun, nofun⟩, trivial⟩) ⟨Nat.zero_le _, fun j hj => absurd hj (Nat.not_lt_zero j), fun z => by simp⟩ ?_
    rintro ⟨k, q⟩ ⟨hk, hT, hq⟩
    dsimp only at hk hT hq
    (conv => whnf) <;> repeat ((first | refine SeqW.go ?_ | refine And.intro trivial ?_ | refine And.intro (And.intro (Nat.le_of_ble_eq_true rfl) (Nat.le_of_ble_eq_true rfl)) ?_ | refine And.intro (And.intro (Nat.le_of_ble_eq_true rfl) (oneRows_of rfl)) ?_ | refine And.intro (And.intro (Nat.eq_of_beq_eq_true rfl) (And.intro (oneRows_of rfl) (Nat.le_of_ble_eq_true rfl))) ?_ | refine And.intro (Nat.le_of_ble_eq_true rfl) ?_ | refine And.intro (And.intro (by omega) (by omega)) ?_ | refine And.intro (by omega) ?_ | refine And.intro (And.intro (by decide) (by decide)) ?_ | intro _ | refine And.intro rfl ?_ | refine onB_t (by with_reducible assumption) ?_ | refine onB_f (by with_reducible assumption) ?_) <;> (conv => whnf))
    (refine onB_mk (fun hr => ?_) (fun hr => ?_) <;> (have h := hr) <;> (try simp [-List.getD_eq_getElem?_getD, wl, List.getD_cons_zero, List.getD_cons_succ] at h) <;> (conv => whnf) <;> repeat ((first | refine SeqW.go ?_ | refine And.intro trivial ?_ | refine And.intro (And.intro (Nat.le_of_ble_eq_true rfl) (Nat.le_of_ble_eq_true rfl)) ?_ | refine And.intro (And.intro (Nat.le_of_ble_eq_true rfl) (oneRows_of rfl)) ?_ | refine And.intro (And.intro (Nat.eq_of_beq_eq_true rfl) (And.intro (oneRows_of rfl) (Nat.le_of_ble_eq_true rfl))) ?_ | refine And.intro (Nat.le_of_ble_eq_true rfl) ?_ | refine And.intro (And.intro (by omega) (by omega)) ?_ | refine And.intro (by omega) ?_ | refine And.intro (And.intro (by decide) (by decide)) ?_ | intro _ | refine And.intro rfl ?_ | refine onB_t (by with_reducible assumption) ?_ | refine onB_f (by with_reducible assumption) ?_) <;> (conv => whnf)))
    · have hk2 : k < a.tasks.length := h
      have hqk := hq (incT a k)
      have hnot : (errT (a.tasks.getD k default) = 0 ∧ (a.tasks.getD k default).inc < next ∧ endOk a.stop (a.tasks.getD k default).state ∧ ((a.tasks.getD k default).inc ≠ 0 → q (incT a k) = false) → False) → ¬ tksOk a next p := fun hc ho => by
        obtain ⟨⟨e1, e2, e3⟩, e5⟩ := ho.2 k hk2
        refine hc ⟨e1, e2, e3, fun h0 => ?_⟩
        obtain ⟨f1, f2⟩ := e5 h0
        cases hb : q (incT a k)
        · rfl
        · rcases hqk.1 hb with g | ⟨i, hi, g⟩
          · rw [f1] at g; cases g
          · exact absurd g (f2 i hi)
      have hyes : errT (a.tasks.getD k default) = 0 → (a.tasks.getD k default).inc < next → endOk a.stop (a.tasks.getD k default).state → ((a.tasks.getD k default).inc ≠ 0 → q (incT a k) = false) → tksTo a next p (k + 1) := fun e1 e2 e3 e4 =>
        tksTo_succ hT ⟨e1, e2, e3⟩ fun h0 => by
          have h1 := e4 h0
          refine ⟨?_, fun i hi e => ?_⟩
          · cases hb : p (incT a k)
            · rfl
            · rw [hqk.2 (.inl hb)] at h1; cases h1
          · rw [hqk.2 (.inr ⟨i, hi, e⟩)] at h1; cases h1
      have hmap : incMap a p (k + 1) (fun z => bif decide (z = (a.tasks.getD k default).inc) then true else q z) := fun z => by
        by_cases c : z = (a.tasks.getD k default).inc
        · simp only [c, decide_true, cond_true, true_iff]
          exact .inr ⟨k, by omega, rfl⟩
        · simp only [c, decide_false, cond_false, hq z]
          constructor
          · rintro (h | ⟨i, hi, h⟩)
            · exact .inl h
            · exact .inr ⟨i, by omega, h⟩
          · rintro (h | ⟨i, hi, h⟩)
            · exact .inl h
            · rcases Nat.lt_succ_iff_lt_or_eq.1 hi with h1 | h1
              · exact .inr ⟨i, h1, h⟩
              · rw [h1] at h; exact absurd h.symm c
      clear hq hT hqk
      have hfr := hs k
      (first | refine Pure.call (taskCheck_p _ (hs k)) ?_ | refine ⟨_, taskCheck_p _ (hs k), ?_⟩) <;> (conv => whnf) <;> repeat ((first | refine SeqW.go ?_ | refine And.intro trivial ?_ | refine And.intro (And.intro (Nat.le_of_ble_eq_true rfl) (Nat.le_of_ble_eq_true rfl)) ?_ | refine And.intro (And.intro (Nat.le_of_ble_eq_true rfl) (oneRows_of rfl)) ?_ | refine And.intro (And.intro (Nat.eq_of_beq_eq_true rfl) (And.intro (oneRows_of rfl) (Nat.le_of_ble_eq_true rfl))) ?_ | refine And.intro (Nat.le_of_ble_eq_true rfl) ?_ | refine And.intro (And.intro (by omega) (by omega)) ?_ | refine And.intro (by omega) ?_ | refine And.intro (And.intro (by decide) (by decide)) ?_ | intro _ | refine And.intro rfl ?_ | refine onB_t (by with_reducible assumption) ?_ | refine onB_f (by with_reducible assumption) ?_) <;> (conv => whnf))
      repeat' (first
        | ((refine onB_mk (fun hr => ?_) (fun hr => ?_) <;> (have h := hr) <;> (try simp [-List.getD_eq_getElem?_getD, wl, List.getD_cons_zero, List.getD_cons_succ] at h) <;> (conv => whnf) <;> repeat ((first | refine SeqW.go ?_ | refine And.intro trivial ?_ | refine And.intro (And.intro (Nat.le_of_ble_eq_true rfl) (Nat.le_of_ble_eq_true rfl)) ?_ | refine And.intro (And.intro (Nat.le_of_ble_eq_true rfl) (oneRows_of rfl)) ?_ | refine And.intro (And.intro (Nat.eq_of_beq_eq_true rfl) (And.intro (oneRows_of rfl) (Nat.le_of_ble_eq_true rfl))) ?_ | refine And.intro (Nat.le_of_ble_eq_true rfl) ?_ | refine And.intro (And.intro (by omega) (by omega)) ?_ | refine And.intro (by omega) ?_ | refine And.intro (And.intro (by decide) (by decide)) ?_ | intro _ | refine And.intro rfl ?_ | refine onB_t (by with_reducible assumption) ?_ | refine onB_f (by with_reducible assumption) ?_) <;> (conv => whnf))))
        | ((first | refine Pure.call (taskOver_p _) ?_ | refine ⟨_, taskOver_p _, ?_⟩) <;> (conv => whnf) <;> repeat ((first | refine SeqW.go ?_ | refine And.intro trivial ?_ | refine And.intro (And.intro (Nat.le_of_ble_eq_true rfl) (Nat.le_of_ble_eq_true rfl)) ?_ | refine And.intro (And.intro (Nat.le_of_ble_eq_true rfl) (oneRows_of rfl)) ?_ | refine And.intro (And.intro (Nat.eq_of_beq_eq_true rfl) (And.intro (oneRows_of rfl) (Nat.le_of_ble_eq_true rfl))) ?_ | refine And.intro (Nat.le_of_ble_eq_true rfl) ?_ | refine And.intro (And.intro (by omega) (by omega)) ?_ | refine And.intro (by omega) ?_ | refine And.intro (And.intro (by decide) (by decide)) ?_ | intro _ | refine And.intro rfl ?_ | refine onB_t (by with_reducible assumption) ?_ | refine onB_f (by with_reducible assumption) ?_) <;> (conv => whnf))))
      all_goals (clear hfr)
      all_goals first
        | exact ret_map _ rfl rfl rfl ⟨_, by_f (hnot fun hc => by obtain ⟨e1, e2, ⟨e3, e4⟩, e5⟩ := hc; omega), rfl, fun ho => absurd ho (hnot fun hc => by obtain ⟨e1, e2, ⟨e3, e4⟩, e5⟩ := hc; omega)⟩
        | exact ret_map _ rfl rfl rfl ⟨_, by_f (hnot fun hc => by obtain ⟨e1, e2, ⟨e3, e4⟩, e5⟩ := hc; clear hnot hyes hmap; simp only [endsT, overT, incT] at *; simp_all), rfl, fun ho => absurd ho (hnot fun hc => by obtain ⟨e1, e2, ⟨e3, e4⟩, e5⟩ := hc; clear hnot hyes hmap; simp only [endsT, overT, incT] at *; simp_all)⟩
        | exact ⟨(k + 1, _), by dsimp only; omega, ⟨by dsimp only; omega, hyes (by omega) (by omega) ⟨by simp only [endsT, overT] at *; simp_all, by simp only [endsT, overT] at *; simp_all⟩ (by simp only [incT] at *; simp_all), hmap⟩, Wk.cut rfl ⟨⟨rfl, rfl⟩, ⟨rfl, rfl⟩, ⟨rfl, rfl⟩, ⟨rfl, rfl⟩, ⟨rfl, rfl⟩, ⟨by simp only [← wrapS (show k < 9223372036854775807 by omega)]; rfl, rfl⟩, trivial⟩ ⟨⟨rfl, rfl, row1 rfl, nofun⟩, ⟨rfl, rfl, nofun, nofun⟩, trivial⟩⟩
        | skip
    · have hkl : k = a.tasks.length := by omega
      subst hkl
      exact ret_map q rfl rfl rfl ⟨q, by_t ⟨hl, hT⟩, rfl, fun _ => hq⟩
def allTk (a : Alloc) (next : Int) : Prop := ∀ j, j < a.tasks.length → tkOk a next (a.tasks.getD j default)
def allocOk (c : Config) (s : State) (a : Alloc) : Prop := specE a.spec = 0 ∧ 1 ≤ a.life ∧ a.life < s.lives ∧ 0 ≤ a.slot ∧ a.slot < c.allocs ∧ a.tasks.length = a.spec.tasks.length ∧ allTk a s.next
open Classical in
set_option maxHeartbeats 4000000 in
theorem refAlloc_p (c : Config) (s : State) (a : Alloc) (hs : ∀ j, 0 ≤ (a.tasks.getD j default).state) : Pure Tryz.prog 25 [c.av, s.av, a.av] (B (decide (allocOk c s a))) := by
  refine Pure.ev Tryz.f25 mx Tryz.func25 (by kernel_rfl) rfl rfl rfl ?_ <;> (conv => whnf) <;> repeat ((first | refine SeqW.go ?_ | refine And.intro trivial ?_ | refine And.intro (And.intro (Nat.le_of_ble_eq_true rfl) (Nat.le_of_ble_eq_true rfl)) ?_ | refine And.intro (And.intro (Nat.le_of_ble_eq_true rfl) (oneRows_of rfl)) ?_ | refine And.intro (And.intro (Nat.eq_of_beq_eq_true rfl) (And.intro (oneRows_of rfl) (Nat.le_of_ble_eq_true rfl))) ?_ | refine And.intro (Nat.le_of_ble_eq_true rfl) ?_ | refine And.intro (And.intro (by omega) (by omega)) ?_ | refine And.intro (by omega) ?_ | refine And.intro (And.intro (by decide) (by decide)) ?_ | intro _ | refine And.intro rfl ?_ | refine onB_t (by with_reducible assumption) ?_ | refine onB_f (by with_reducible assumption) ?_) <;> (conv => whnf))
  (first | refine Pure.call (check13_p a.spec) ?_ | refine ⟨_, check13_p a.spec, ?_⟩) <;> (conv => whnf) <;> repeat ((first | refine SeqW.go ?_ | refine And.intro trivial ?_ | refine And.intro (And.intro (Nat.le_of_ble_eq_true rfl) (Nat.le_of_ble_eq_true rfl)) ?_ | refine And.intro (And.intro (Nat.le_of_ble_eq_true rfl) (oneRows_of rfl)) ?_ | refine And.intro (And.intro (Nat.eq_of_beq_eq_true rfl) (And.intro (oneRows_of rfl) (Nat.le_of_ble_eq_true rfl))) ?_ | refine And.intro (Nat.le_of_ble_eq_true rfl) ?_ | refine And.intro (And.intro (by omega) (by omega)) ?_ | refine And.intro (by omega) ?_ | refine And.intro (And.intro (by decide) (by decide)) ?_ | intro _ | refine And.intro rfl ?_ | refine onB_t (by with_reducible assumption) ?_ | refine onB_f (by with_reducible assumption) ?_) <;> (conv => whnf))
  repeat' ((refine onB_mk (fun hr => ?_) (fun hr => ?_) <;> (have h := hr) <;> (try simp [-List.getD_eq_getElem?_getD, wl, List.getD_cons_zero, List.getD_cons_succ] at h) <;> (conv => whnf) <;> repeat ((first | refine SeqW.go ?_ | refine And.intro trivial ?_ | refine And.intro (And.intro (Nat.le_of_ble_eq_true rfl) (Nat.le_of_ble_eq_true rfl)) ?_ | refine And.intro (And.intro (Nat.le_of_ble_eq_true rfl) (oneRows_of rfl)) ?_ | refine And.intro (And.intro (Nat.eq_of_beq_eq_true rfl) (And.intro (oneRows_of rfl) (Nat.le_of_ble_eq_true rfl))) ?_ | refine And.intro (Nat.le_of_ble_eq_true rfl) ?_ | refine And.intro (And.intro (by omega) (by omega)) ?_ | refine And.intro (by omega) ?_ | refine And.intro (And.intro (by decide) (by decide)) ?_ | intro _ | refine And.intro rfl ?_ | refine onB_t (by with_reducible assumption) ?_ | refine onB_f (by with_reducible assumption) ?_) <;> (conv => whnf))))
  all_goals first
    | exact ret_now _ (by_f fun ho => by obtain ⟨h1, h2, h3, h4, h5, h6, h7⟩ := ho; first | omega | exact absurd h1 h)
    | skip
  have hA : specE a.spec = 0 := by assumption
  refine loop_st (S := Nat) (fun k => [(4, .hptr 1 5 0 0), (5, .hptr 2 10 0 0), (7, I k)])
    (fun _ => ⟨3, [(2, some ⟨10, [a.fv.map FV.up], none⟩), (1, some ⟨5, [s.fv.map FV.up], none⟩)]⟩) (fun k => k ≤ a.tasks.length ∧ ∀ j, j < k → tkOk a s.next (a.tasks.getD j default)) (fun k => a.tasks.length - k) 0
    (Wk.cut rfl ⟨⟨rfl, rfl⟩, ⟨rfl, rfl⟩, ⟨rfl, rfl⟩, trivial⟩ ⟨⟨rfl, rfl, row1 rfl, nofun⟩, ⟨rfl, rfl, row1 rfl, nofun⟩, trivial⟩) ⟨Nat.zero_le _, fun j hj => absurd hj (Nat.not_lt_zero j)⟩ ?_
  rintro k ⟨hk, hT⟩
  have hall : (∀ j, j < a.tasks.length → tkOk a s.next (a.tasks.getD j default)) → allocOk c s a := fun h => ⟨hA, by omega, by omega, by omega, by omega, by omega, h⟩
  clear hA
  (conv => whnf) <;> repeat ((first | refine SeqW.go ?_ | refine And.intro trivial ?_ | refine And.intro (And.intro (Nat.le_of_ble_eq_true rfl) (Nat.le_of_ble_eq_true rfl)) ?_ | refine And.intro (And.intro (Nat.le_of_ble_eq_true rfl) (oneRows_of rfl)) ?_ | refine And.intro (And.intro (Nat.eq_of_beq_eq_true rfl) (And.intro (oneRows_of rfl) (Nat.le_of_ble_eq_true rfl))) ?_ | refine And.intro (Nat.le_of_ble_eq_true rfl) ?_ | refine And.intro (And.intro (by omega) (by omega)) ?_ | refine And.intro (by omega) ?_ | refine And.intro (And.intro (by decide) (by decide)) ?_ | intro _ | refine And.intro rfl ?_ | refine onB_t (by with_reducible assumption) ?_ | refine onB_f (by with_reducible assumption) ?_) <;> (conv => whnf))
  (refine onB_mk (fun hr => ?_) (fun hr => ?_) <;> (have h := hr) <;> (try simp [-List.getD_eq_getElem?_getD, wl, List.getD_cons_zero, List.getD_cons_succ] at h) <;> (conv => whnf) <;> repeat ((first | refine SeqW.go ?_ | refine And.intro trivial ?_ | refine And.intro (And.intro (Nat.le_of_ble_eq_true rfl) (Nat.le_of_ble_eq_true rfl)) ?_ | refine And.intro (And.intro (Nat.le_of_ble_eq_true rfl) (oneRows_of rfl)) ?_ | refine And.intro (And.intro (Nat.eq_of_beq_eq_true rfl) (And.intro (oneRows_of rfl) (Nat.le_of_ble_eq_true rfl))) ?_ | refine And.intro (Nat.le_of_ble_eq_true rfl) ?_ | refine And.intro (And.intro (by omega) (by omega)) ?_ | refine And.intro (by omega) ?_ | refine And.intro (And.intro (by decide) (by decide)) ?_ | intro _ | refine And.intro rfl ?_ | refine onB_t (by with_reducible assumption) ?_ | refine onB_f (by with_reducible assumption) ?_) <;> (conv => whnf)))
  · have hk2 : k < a.tasks.length := h
    have hnot : (errT (a.tasks.getD k default) = 0 ∧ (a.tasks.getD k default).inc < s.next ∧ endOk a.stop (a.tasks.getD k default).state → False) → ¬ allocOk c s a := fun hc ho => by
      obtain ⟨e1, e2, e3⟩ := ho.2.2.2.2.2.2 k hk2
      exact hc ⟨e1, e2, e3⟩
    have hyes : errT (a.tasks.getD k default) = 0 → (a.tasks.getD k default).inc < s.next → endOk a.stop (a.tasks.getD k default).state → ∀ j, j < k + 1 → tkOk a s.next (a.tasks.getD j default) := fun e1 e2 e3 j hj => by
      rcases Nat.lt_succ_iff_lt_or_eq.1 hj with h1 | h1
      · exact hT j h1
      · rw [h1]; exact ⟨e1, e2, e3⟩
    clear hT hall
    (first | refine Pure.call (ref19Check_p _ (hs k)) ?_ | refine ⟨_, ref19Check_p _ (hs k), ?_⟩) <;> (conv => whnf) <;> repeat ((first | refine SeqW.go ?_ | refine And.intro trivial ?_ | refine And.intro (And.intro (Nat.le_of_ble_eq_true rfl) (Nat.le_of_ble_eq_true rfl)) ?_ | refine And.intro (And.intro (Nat.le_of_ble_eq_true rfl) (oneRows_of rfl)) ?_ | refine And.intro (And.intro (Nat.eq_of_beq_eq_true rfl) (And.intro (oneRows_of rfl) (Nat.le_of_ble_eq_true rfl))) ?_ | refine And.intro (Nat.le_of_ble_eq_true rfl) ?_ | refine And.intro (And.intro (by omega) (by omega)) ?_ | refine And.intro (by omega) ?_ | refine And.intro (And.intro (by decide) (by decide)) ?_ | intro _ | refine And.intro rfl ?_ | refine onB_t (by with_reducible assumption) ?_ | refine onB_f (by with_reducible assumption) ?_) <;> (conv => whnf))
    repeat' (first
      | ((refine onB_mk (fun hr => ?_) (fun hr => ?_) <;> (have h := hr) <;> (try simp [-List.getD_eq_getElem?_getD, wl, List.getD_cons_zero, List.getD_cons_succ] at h) <;> (conv => whnf) <;> repeat ((first | refine SeqW.go ?_ | refine And.intro trivial ?_ | refine And.intro (And.intro (Nat.le_of_ble_eq_true rfl) (Nat.le_of_ble_eq_true rfl)) ?_ | refine And.intro (And.intro (Nat.le_of_ble_eq_true rfl) (oneRows_of rfl)) ?_ | refine And.intro (And.intro (Nat.eq_of_beq_eq_true rfl) (And.intro (oneRows_of rfl) (Nat.le_of_ble_eq_true rfl))) ?_ | refine And.intro (Nat.le_of_ble_eq_true rfl) ?_ | refine And.intro (And.intro (by omega) (by omega)) ?_ | refine And.intro (by omega) ?_ | refine And.intro (And.intro (by decide) (by decide)) ?_ | intro _ | refine And.intro rfl ?_ | refine onB_t (by with_reducible assumption) ?_ | refine onB_f (by with_reducible assumption) ?_) <;> (conv => whnf))))
      | ((first | refine Pure.call (ref19Over_p _) ?_ | refine ⟨_, ref19Over_p _, ?_⟩) <;> (conv => whnf) <;> repeat ((first | refine SeqW.go ?_ | refine And.intro trivial ?_ | refine And.intro (And.intro (Nat.le_of_ble_eq_true rfl) (Nat.le_of_ble_eq_true rfl)) ?_ | refine And.intro (And.intro (Nat.le_of_ble_eq_true rfl) (oneRows_of rfl)) ?_ | refine And.intro (And.intro (Nat.eq_of_beq_eq_true rfl) (And.intro (oneRows_of rfl) (Nat.le_of_ble_eq_true rfl))) ?_ | refine And.intro (Nat.le_of_ble_eq_true rfl) ?_ | refine And.intro (And.intro (by omega) (by omega)) ?_ | refine And.intro (by omega) ?_ | refine And.intro (And.intro (by decide) (by decide)) ?_ | intro _ | refine And.intro rfl ?_ | refine onB_t (by with_reducible assumption) ?_ | refine onB_f (by with_reducible assumption) ?_) <;> (conv => whnf))))
    all_goals first
      | exact ret_now _ (by_f (hnot fun hc => by obtain ⟨e1, e2, ⟨e3, e4⟩⟩ := hc; omega))
      | exact ret_now _ (by_f (hnot fun hc => by obtain ⟨e1, e2, ⟨e3, e4⟩⟩ := hc; clear hnot hyes; (try simp only [endsT, overT] at *); simp_all))
      | exact ⟨k + 1, by omega, ⟨by omega, hyes (by omega) (by omega) ⟨by (try simp only [endsT, overT] at *); simp_all, by (try simp only [endsT, overT] at *); simp_all⟩⟩, Wk.cut rfl ⟨⟨rfl, rfl⟩, ⟨rfl, rfl⟩, ⟨by simp only [← wrapS (show k < 9223372036854775807 by omega)]; rfl, rfl⟩, trivial⟩ ⟨⟨rfl, rfl, row1 rfl, nofun⟩, ⟨rfl, rfl, row1 rfl, nofun⟩, trivial⟩⟩
  · exact ret_now _ (by_t (hall fun j hj => hT j (by omega)))
/-- The incarnations that are not 0. -/
def incsA (a : Alloc) (k : Nat) : List Int := ((a.tasks.take k).map fun t => t.inc).filter fun n => n ≠ 0
def incsL (l : List Alloc) : List Int := (l.map fun a => incsA a a.tasks.length).flatten
theorem incsL_snoc (l : List Alloc) (a : Alloc) : incsL (l ++ [a]) = incsL l ++ incsA a a.tasks.length := by simp [incsL]
theorem incsA_succ {a : Alloc} {k : Nat} (h : k < a.tasks.length) : incsA a (k + 1) = incsA a k ++ (if incT a k ≠ 0 then [incT a k] else []) := by
  unfold incsA
  rw [takeS h, List.map_append, List.filter_append]
  congr 1
  by_cases c : incT a k = 0 <;> simp [incT] at c <;> simp [incT, c]
def pairOk (s : State) (i k : Nat) : Prop := (s.allocs.getD k default).life ≠ (s.allocs.getD i default).life ∧ (s.allocs.getD k default).slot ≠ (s.allocs.getD i default).slot ∧ (s.allocs.getD k default).spec.id < (s.allocs.getD i default).spec.id
def apartOk (s : State) : Prop := (∀ i, i < s.allocs.length → ∀ k, k < i → pairOk s i k) ∧ (incsL s.allocs).Nodup
theorem nodup_pre {s : State} (h : (incsL s.allocs).Nodup) {i k : Nat} (hi : i < s.allocs.length) (hk : k < (s.allocs.getD i default).tasks.length) (h0 : incT (s.allocs.getD i default) k ≠ 0) : incT (s.allocs.getD i default) k ∉ incsL (s.allocs.take i) ++ incsA (s.allocs.getD i default) k := by
  have e1 : s.allocs = s.allocs.take (i + 1) ++ s.allocs.drop (i + 1) := (List.take_append_drop _ _).symm
  have e2 : incsL s.allocs = incsL (s.allocs.take (i + 1)) ++ incsL (s.allocs.drop (i + 1)) := by
    unfold incsL
    rw [← List.flatten_append, ← List.map_append, List.take_append_drop]
  rw [e2, takeS hi, incsL_snoc] at h
  have h1 := (List.nodup_append.1 h).1
  generalize s.allocs.getD i default = a at *
  have e3 : ∃ r, incsA a a.tasks.length = incsA a (k + 1) ++ r := ⟨((a.tasks.drop (k + 1)).map fun t => t.inc).filter fun n => n ≠ 0, by
    unfold incsA
    rw [List.take_length, ← List.filter_append, ← List.map_append, List.take_append_drop]⟩
  obtain ⟨r, e3⟩ := e3
  rw [e3, incsA_succ hk, if_pos h0, ← List.append_assoc] at h1
  have h2 := (List.nodup_append.1 h1).1
  rw [← List.append_assoc] at h2
  intro hm
  have := List.nodup_append.1 h2
  exact this.2.2 _ hm _ (List.mem_singleton.2 rfl) rfl
abbrev rowsI (L : List Int) : List (List AV) := L.map fun x => [I x]
theorem freeI {L : List Int} : ∀ row ∈ rowsI L, freeL row = true := fun row h => by
  obtain ⟨x, _, rfl⟩ := List.mem_map.1 h
  rfl
theorem rowsI_at {L : List Int} {n : Nat} (h : n < L.length) : (rowsI L)[0 + ((n : Int)).toNat]? = some [I (L.getD n 0)] := by
  simp [rowsI, List.getD_eq_getElem?_getD, h]
abbrev frA (i : Nat) (L : List Int) : Fr := [(1, .hptr 0 5 0 0), (3, .hsl 1 1 0 L.length L.length false), (4, I i)]
abbrev hpA (s : State) (L : List Int) : Hp := ⟨2, [(1, some ⟨1, rowsI L, none⟩), (0, some ⟨5, [s.fv.map FV.up], none⟩)]⟩
abbrev hpB (s : State) (L : List Int) (a : Alloc) : Hp := ⟨3, [(2, some ⟨10, [a.fv.map FV.up], none⟩), (1, some ⟨1, rowsI L, none⟩), (0, some ⟨5, [s.fv.map FV.up], none⟩)]⟩
theorem incsA_le (a : Alloc) (k : Nat) : (incsA a k).length ≤ a.tasks.length := by
  unfold incsA
  refine Nat.le_trans (List.length_filter_le _ _) ?_
  simp; omega
theorem incsL_len (l : List Alloc) (h : ∀ a ∈ l, a.tasks.length ≤ 1000) : (incsL l).length ≤ l.length * 1000 := by
  unfold incsL
  induction l with
  | nil => simp
  | cons a l ih =>
    have h1 := ih fun b hb => h b (List.mem_cons_of_mem _ hb)
    have h2 := h a (List.mem_cons_self ..)
    have h3 := incsA_le a a.tasks.length
    simp only [List.map_cons, List.flatten_cons, List.length_append, List.length_cons]
    omega
open Classical in
set_option maxHeartbeats 4000000 in
theorem refApart_p (s : State) (hn : s.allocs.length ≤ 1000) (ht : ∀ i, (s.allocs.getD i default).tasks.length ≤ 1000) : Pure Tryz.prog 24 [s.av] (B (decide (apartOk s))) := by
  have hlen : ∀ i, i ≤ s.allocs.length → (incsL (s.allocs.take i)).length ≤ 1000000 := fun i hi => by
    have := incsL_len (s.allocs.take i) fun a ha => by
      obtain ⟨j, hj, rfl⟩ := List.getElem_of_mem (List.mem_of_mem_take ha)
      have := ht j
      simpa [List.getD_eq_getElem?_getD, hj] using this
    simp at this
    omega
  refine Pure.ev Tryz.f24 mx Tryz.func24 (by kernel_rfl) rfl rfl rfl ?_ <;> (conv => whnf) <;> repeat ((first | refine SeqW.go ?_ | refine And.intro trivial ?_ | refine And.intro (And.intro (Nat.le_of_ble_eq_true rfl) (Nat.le_of_ble_eq_true rfl)) ?_ | refine And.intro (And.intro (Nat.le_of_ble_eq_true rfl) (oneRows_of rfl)) ?_ | refine And.intro (And.intro (Nat.eq_of_beq_eq_true rfl) (And.intro (oneRows_of rfl) (Nat.le_of_ble_eq_true rfl))) ?_ | refine And.intro (Nat.le_of_ble_eq_true rfl) ?_ | refine And.intro (And.intro (by omega) (by omega)) ?_ | refine And.intro (by omega) ?_ | refine And.intro (And.intro (by decide) (by decide)) ?_ | intro _ | refine And.intro rfl ?_ | refine onB_t (by with_reducible assumption) ?_ | refine onB_f (by with_reducible assumption) ?_) <;> (conv => whnf))
  refine loop_st (S := Nat) (fun i => frA i (incsL (s.allocs.take i))) (fun i => hpA s (incsL (s.allocs.take i)))
    (fun i => i ≤ s.allocs.length ∧ (∀ m, m < i → ∀ k, k < m → pairOk s m k) ∧ (incsL (s.allocs.take i)).Nodup) (fun i => s.allocs.length - i) 0
    ((Wk.phantom 3 1 rfl).trans (Wk.cut rfl ⟨⟨rfl, rfl⟩, ⟨rfl, rfl⟩, ⟨rfl, rfl⟩, trivial⟩ ⟨⟨rfl, rfl, nofun, nofun⟩, ⟨rfl, rfl, row1 rfl, nofun⟩, trivial⟩)) ⟨Nat.zero_le _, fun m hm => absurd hm (Nat.not_lt_zero m), List.nodup_nil⟩ ?_
  rintro i ⟨hi, hP, hN⟩
  have hL := hlen i hi
  generalize hLe : incsL (s.allocs.take i) = L at hN hL ⊢
  (conv => whnf) <;> repeat ((first | refine SeqW.go ?_ | refine And.intro trivial ?_ | refine And.intro (And.intro (Nat.le_of_ble_eq_true rfl) (Nat.le_of_ble_eq_true rfl)) ?_ | refine And.intro (And.intro (Nat.le_of_ble_eq_true rfl) (oneRows_of rfl)) ?_ | refine And.intro (And.intro (Nat.eq_of_beq_eq_true rfl) (And.intro (oneRows_of rfl) (Nat.le_of_ble_eq_true rfl))) ?_ | refine And.intro (Nat.le_of_ble_eq_true rfl) ?_ | refine And.intro (And.intro (by omega) (by omega)) ?_ | refine And.intro (by omega) ?_ | refine And.intro (And.intro (by decide) (by decide)) ?_ | intro _ | refine And.intro rfl ?_ | refine onB_t (by with_reducible assumption) ?_ | refine onB_f (by with_reducible assumption) ?_) <;> (conv => whnf))
  (refine onB_mk (fun hr => ?_) (fun hr => ?_) <;> (have h := hr) <;> (try simp [-List.getD_eq_getElem?_getD, wl, List.getD_cons_zero, List.getD_cons_succ] at h) <;> (conv => whnf) <;> repeat ((first | refine SeqW.go ?_ | refine And.intro trivial ?_ | refine And.intro (And.intro (Nat.le_of_ble_eq_true rfl) (Nat.le_of_ble_eq_true rfl)) ?_ | refine And.intro (And.intro (Nat.le_of_ble_eq_true rfl) (oneRows_of rfl)) ?_ | refine And.intro (And.intro (Nat.eq_of_beq_eq_true rfl) (And.intro (oneRows_of rfl) (Nat.le_of_ble_eq_true rfl))) ?_ | refine And.intro (Nat.le_of_ble_eq_true rfl) ?_ | refine And.intro (And.intro (by omega) (by omega)) ?_ | refine And.intro (by omega) ?_ | refine And.intro (And.intro (by decide) (by decide)) ?_ | intro _ | refine And.intro rfl ?_ | refine onB_t (by with_reducible assumption) ?_ | refine onB_f (by with_reducible assumption) ?_) <;> (conv => whnf)))
  · have hi2 : i < s.allocs.length := h
    -- the allocations ahead
    refine loop_st (S := Nat) (fun k => (5, .hptr 2 10 0 0) :: (6, I k) :: frA i L) (fun _ => hpB s L (s.allocs.getD i default)) (fun k => k ≤ i ∧ ∀ m, m < k → pairOk s i m) (fun k => i - k) 0
      (Wk.cut rfl ⟨⟨rfl, rfl⟩, ⟨rfl, rfl⟩, ⟨rfl, rfl⟩, ⟨rfl, rfl⟩, ⟨rfl, rfl⟩, trivial⟩ ⟨⟨rfl, rfl, row1 rfl, nofun⟩, ⟨rfl, rfl, bd_rows freeI, nofun⟩, ⟨rfl, rfl, row1 rfl, nofun⟩, trivial⟩) ⟨Nat.zero_le _, fun m hm => absurd hm (Nat.not_lt_zero m)⟩ ?_
    rintro k ⟨hk, hQ⟩
    (conv => whnf) <;> repeat ((first | refine SeqW.go ?_ | refine And.intro trivial ?_ | refine And.intro (And.intro (Nat.le_of_ble_eq_true rfl) (Nat.le_of_ble_eq_true rfl)) ?_ | refine And.intro (And.intro (Nat.le_of_ble_eq_true rfl) (oneRows_of rfl)) ?_ | refine And.intro (And.intro (Nat.eq_of_beq_eq_true rfl) (And.intro (oneRows_of rfl) (Nat.le_of_ble_eq_true rfl))) ?_ | refine And.intro (Nat.le_of_ble_eq_true rfl) ?_ | refine And.intro (And.intro (by omega) (by omega)) ?_ | refine And.intro (by omega) ?_ | refine And.intro (And.intro (by decide) (by decide)) ?_ | intro _ | refine And.intro rfl ?_ | refine onB_t (by with_reducible assumption) ?_ | refine onB_f (by with_reducible assumption) ?_) <;> (conv => whnf))
    (refine onB_mk (fun hr => ?_) (fun hr => ?_) <;> (have h := hr) <;> (try simp [-List.getD_eq_getElem?_getD, wl, List.getD_cons_zero, List.getD_cons_succ] at h) <;> (conv => whnf) <;> repeat ((first | refine SeqW.go ?_ | refine And.intro trivial ?_ | refine And.intro (And.intro (Nat.le_of_ble_eq_true rfl) (Nat.le_of_ble_eq_true rfl)) ?_ | refine And.intro (And.intro (Nat.le_of_ble_eq_true rfl) (oneRows_of rfl)) ?_ | refine And.intro (And.intro (Nat.eq_of_beq_eq_true rfl) (And.intro (oneRows_of rfl) (Nat.le_of_ble_eq_true rfl))) ?_ | refine And.intro (Nat.le_of_ble_eq_true rfl) ?_ | refine And.intro (And.intro (by omega) (by omega)) ?_ | refine And.intro (by omega) ?_ | refine And.intro (And.intro (by decide) (by decide)) ?_ | intro _ | refine And.intro rfl ?_ | refine onB_t (by with_reducible assumption) ?_ | refine onB_f (by with_reducible assumption) ?_) <;> (conv => whnf)))
    · have hk2 : k < i := h
      repeat' ((refine onB_mk (fun hr => ?_) (fun hr => ?_) <;> (have h := hr) <;> (try simp [-List.getD_eq_getElem?_getD, wl, List.getD_cons_zero, List.getD_cons_succ] at h) <;> (conv => whnf) <;> repeat ((first | refine SeqW.go ?_ | refine And.intro trivial ?_ | refine And.intro (And.intro (Nat.le_of_ble_eq_true rfl) (Nat.le_of_ble_eq_true rfl)) ?_ | refine And.intro (And.intro (Nat.le_of_ble_eq_true rfl) (oneRows_of rfl)) ?_ | refine And.intro (And.intro (Nat.eq_of_beq_eq_true rfl) (And.intro (oneRows_of rfl) (Nat.le_of_ble_eq_true rfl))) ?_ | refine And.intro (Nat.le_of_ble_eq_true rfl) ?_ | refine And.intro (And.intro (by omega) (by omega)) ?_ | refine And.intro (by omega) ?_ | refine And.intro (And.intro (by decide) (by decide)) ?_ | intro _ | refine And.intro rfl ?_ | refine onB_t (by with_reducible assumption) ?_ | refine onB_f (by with_reducible assumption) ?_) <;> (conv => whnf))))
      all_goals first
        | exact ret_now _ (by_f fun ho => by have := ho.1 i hi2 k hk2; unfold pairOk at this; omega)
        | exact ⟨k + 1, by omega, ⟨by omega, fun m hm => by
            rcases Nat.lt_succ_iff_lt_or_eq.1 hm with h1 | h1
            · exact hQ m h1
            · rw [h1]; unfold pairOk; omega⟩, Wk.cut rfl ⟨⟨rfl, rfl⟩, ⟨by simp only [← wrapS (show k < 9223372036854775807 by omega)]; rfl, rfl⟩, ⟨rfl, rfl⟩, ⟨rfl, rfl⟩, ⟨rfl, rfl⟩, trivial⟩ ⟨⟨rfl, rfl, row1 rfl, nofun⟩, ⟨rfl, rfl, bd_rows freeI, nofun⟩, ⟨rfl, rfl, row1 rfl, nofun⟩, trivial⟩⟩
    · have hki : k = i := by omega
      subst hki
      -- the tasks
      refine loop_st (S := Nat) (fun t => (5, .hptr 2 10 0 0) :: (7, I t) :: frA k (L ++ incsA (s.allocs.getD k default) t)) (fun t => hpB s (L ++ incsA (s.allocs.getD k default) t) (s.allocs.getD k default)) (fun t => t ≤ (s.allocs.getD k default).tasks.length ∧ (L ++ incsA (s.allocs.getD k default) t).Nodup) (fun t => (s.allocs.getD k default).tasks.length - t) 0
        (Wk.cut rfl ⟨⟨rfl, rfl⟩, ⟨rfl, rfl⟩, ⟨rfl, rfl⟩, ⟨by simp [incsA]; rfl, rfl⟩, ⟨rfl, rfl⟩, trivial⟩ ⟨⟨rfl, rfl, row1 rfl, nofun⟩, ⟨by simp [incsA]; rfl, rfl, bd_rows freeI, nofun⟩, ⟨rfl, rfl, row1 rfl, nofun⟩, trivial⟩) ⟨Nat.zero_le _, by simpa [incsA] using hN⟩ ?_
      rintro t ⟨htk, hD⟩
      have hL2 : (L ++ incsA (s.allocs.getD k default) t).length ≤ 1001000 := by
        have := incsA_le (s.allocs.getD k default) t
        have := ht k
        rw [List.length_append]; omega
      have hnd : (incsL s.allocs).Nodup → t < (s.allocs.getD k default).tasks.length → incT (s.allocs.getD k default) t ≠ 0 → incT (s.allocs.getD k default) t ∉ L ++ incsA (s.allocs.getD k default) t := fun h1 h2 h3 => by
        have := nodup_pre h1 hi2 h2 h3
        rwa [hLe] at this
      have hnz : ∀ x ∈ L ++ incsA (s.allocs.getD k default) t, x ≠ 0 := fun x hx => by
        rcases List.mem_append.1 hx with h1 | h1
        · rw [← hLe] at h1
          unfold incsL at h1
          obtain ⟨l, h2, h3⟩ := List.mem_flatten.1 h1
          obtain ⟨a, _, rfl⟩ := List.mem_map.1 h2
          simpa using (List.mem_filter.1 h3).2
        · simpa using (List.mem_filter.1 h1).2
      have hsucc : t < (s.allocs.getD k default).tasks.length → L ++ incsA (s.allocs.getD k default) (t + 1) = (L ++ incsA (s.allocs.getD k default) t) ++ (if incT (s.allocs.getD k default) t ≠ 0 then [incT (s.allocs.getD k default) t] else []) := fun h => by rw [incsA_succ h, List.append_assoc]
      generalize hMe : L ++ incsA (s.allocs.getD k default) t = M at hD hL2 hnd hnz hsucc ⊢
      (conv => whnf) <;> repeat ((first | refine SeqW.go ?_ | refine And.intro trivial ?_ | refine And.intro (And.intro (Nat.le_of_ble_eq_true rfl) (Nat.le_of_ble_eq_true rfl)) ?_ | refine And.intro (And.intro (Nat.le_of_ble_eq_true rfl) (oneRows_of rfl)) ?_ | refine And.intro (And.intro (Nat.eq_of_beq_eq_true rfl) (And.intro (oneRows_of rfl) (Nat.le_of_ble_eq_true rfl))) ?_ | refine And.intro (Nat.le_of_ble_eq_true rfl) ?_ | refine And.intro (And.intro (by omega) (by omega)) ?_ | refine And.intro (by omega) ?_ | refine And.intro (And.intro (by decide) (by decide)) ?_ | intro _ | refine And.intro rfl ?_ | refine onB_t (by with_reducible assumption) ?_ | refine onB_f (by with_reducible assumption) ?_) <;> (conv => whnf))
      (refine onB_mk (fun hr => ?_) (fun hr => ?_) <;> (have h := hr) <;> (try simp [-List.getD_eq_getElem?_getD, wl, List.getD_cons_zero, List.getD_cons_succ] at h) <;> (conv => whnf) <;> repeat ((first | refine SeqW.go ?_ | refine And.intro trivial ?_ | refine And.intro (And.intro (Nat.le_of_ble_eq_true rfl) (Nat.le_of_ble_eq_true rfl)) ?_ | refine And.intro (And.intro (Nat.le_of_ble_eq_true rfl) (oneRows_of rfl)) ?_ | refine And.intro (And.intro (Nat.eq_of_beq_eq_true rfl) (And.intro (oneRows_of rfl) (Nat.le_of_ble_eq_true rfl))) ?_ | refine And.intro (Nat.le_of_ble_eq_true rfl) ?_ | refine And.intro (And.intro (by omega) (by omega)) ?_ | refine And.intro (by omega) ?_ | refine And.intro (And.intro (by decide) (by decide)) ?_ | intro _ | refine And.intro rfl ?_ | refine onB_t (by with_reducible assumption) ?_ | refine onB_f (by with_reducible assumption) ?_) <;> (conv => whnf)))
      · have ht2 : t < (s.allocs.getD k default).tasks.length := h
        refine loop_st (S := Nat) (fun n => (5, .hptr 2 10 0 0) :: (7, I t) :: (8, I n) :: frA k M) (fun _ => hpB s M (s.allocs.getD k default)) (fun n => n ≤ M.length ∧ ∀ m, m < n → M.getD m 0 ≠ incT (s.allocs.getD k default) t) (fun n => M.length - n) 0
          (Wk.cut rfl ⟨⟨rfl, rfl⟩, ⟨rfl, rfl⟩, ⟨rfl, rfl⟩, ⟨rfl, rfl⟩, ⟨rfl, rfl⟩, ⟨rfl, rfl⟩, trivial⟩ ⟨⟨rfl, rfl, row1 rfl, nofun⟩, ⟨rfl, rfl, bd_rows freeI, nofun⟩, ⟨rfl, rfl, row1 rfl, nofun⟩, trivial⟩) ⟨Nat.zero_le _, fun m hm => absurd hm (Nat.not_lt_zero m)⟩ ?_
        rintro n ⟨hn2, hM⟩
        (conv => whnf) <;> repeat ((first | refine SeqW.go ?_ | refine And.intro trivial ?_ | refine And.intro (And.intro (Nat.le_of_ble_eq_true rfl) (Nat.le_of_ble_eq_true rfl)) ?_ | refine And.intro (And.intro (Nat.le_of_ble_eq_true rfl) (oneRows_of rfl)) ?_ | refine And.intro (And.intro (Nat.eq_of_beq_eq_true rfl) (And.intro (oneRows_of rfl) (Nat.le_of_ble_eq_true rfl))) ?_ | refine And.intro (Nat.le_of_ble_eq_true rfl) ?_ | refine And.intro (And.intro (by omega) (by omega)) ?_ | refine And.intro (by omega) ?_ | refine And.intro (And.intro (by decide) (by decide)) ?_ | intro _ | refine And.intro rfl ?_ | refine onB_t (by with_reducible assumption) ?_ | refine onB_f (by with_reducible assumption) ?_) <;> (conv => whnf))
        (refine onB_mk (fun hr => ?_) (fun hr => ?_) <;> (have h := hr) <;> (try simp [-List.getD_eq_getElem?_getD, wl, List.getD_cons_zero, List.getD_cons_succ] at h) <;> (conv => whnf) <;> repeat ((first | refine SeqW.go ?_ | refine And.intro trivial ?_ | refine And.intro (And.intro (Nat.le_of_ble_eq_true rfl) (Nat.le_of_ble_eq_true rfl)) ?_ | refine And.intro (And.intro (Nat.le_of_ble_eq_true rfl) (oneRows_of rfl)) ?_ | refine And.intro (And.intro (Nat.eq_of_beq_eq_true rfl) (And.intro (oneRows_of rfl) (Nat.le_of_ble_eq_true rfl))) ?_ | refine And.intro (Nat.le_of_ble_eq_true rfl) ?_ | refine And.intro (And.intro (by omega) (by omega)) ?_ | refine And.intro (by omega) ?_ | refine And.intro (And.intro (by decide) (by decide)) ?_ | intro _ | refine And.intro rfl ?_ | refine onB_t (by with_reducible assumption) ?_ | refine onB_f (by with_reducible assumption) ?_) <;> (conv => whnf)))
        · have hn3 : n < M.length := h
          rw [evN_load_own (row := [I (M.getD n 0)]) (y := I (M.getD n 0))]
          rotate_left 1
          · exact rfl
          · exact rfl
          · exact rfl
          · exact rowsI_at hn3
          · exact rfl
          · exact rfl
          (conv => whnf) <;> repeat ((first | refine SeqW.go ?_ | refine And.intro trivial ?_ | refine And.intro (And.intro (Nat.le_of_ble_eq_true rfl) (Nat.le_of_ble_eq_true rfl)) ?_ | refine And.intro (And.intro (Nat.le_of_ble_eq_true rfl) (oneRows_of rfl)) ?_ | refine And.intro (And.intro (Nat.eq_of_beq_eq_true rfl) (And.intro (oneRows_of rfl) (Nat.le_of_ble_eq_true rfl))) ?_ | refine And.intro (Nat.le_of_ble_eq_true rfl) ?_ | refine And.intro (And.intro (by omega) (by omega)) ?_ | refine And.intro (by omega) ?_ | refine And.intro (And.intro (by decide) (by decide)) ?_ | intro _ | refine And.intro rfl ?_ | refine onB_t (by with_reducible assumption) ?_ | refine onB_f (by with_reducible assumption) ?_) <;> (conv => whnf))
          (refine onB_mk (fun hr => ?_) (fun hr => ?_) <;> (have h := hr) <;> (try simp [-List.getD_eq_getElem?_getD, wl, List.getD_cons_zero, List.getD_cons_succ] at h) <;> (conv => whnf) <;> repeat ((first | refine SeqW.go ?_ | refine And.intro trivial ?_ | refine And.intro (And.intro (Nat.le_of_ble_eq_true rfl) (Nat.le_of_ble_eq_true rfl)) ?_ | refine And.intro (And.intro (Nat.le_of_ble_eq_true rfl) (oneRows_of rfl)) ?_ | refine And.intro (And.intro (Nat.eq_of_beq_eq_true rfl) (And.intro (oneRows_of rfl) (Nat.le_of_ble_eq_true rfl))) ?_ | refine And.intro (Nat.le_of_ble_eq_true rfl) ?_ | refine And.intro (And.intro (by omega) (by omega)) ?_ | refine And.intro (by omega) ?_ | refine And.intro (And.intro (by decide) (by decide)) ?_ | intro _ | refine And.intro rfl ?_ | refine onB_t (by with_reducible assumption) ?_ | refine onB_f (by with_reducible assumption) ?_) <;> (conv => whnf)))
          · refine ret_now _ (by_f fun ho => ?_)
            have hmem : M.getD n 0 ∈ M := by simp [List.getD_eq_getElem?_getD, hn3]
            have he : M.getD n 0 = incT (s.allocs.getD k default) t := h
            have h0 := hnz _ hmem
            rw [he] at hmem h0
            exact hnd ho.2 ht2 h0 hmem
          · exact ⟨n + 1, by omega, ⟨by omega, fun m hm => by
              rcases Nat.lt_succ_iff_lt_or_eq.1 hm with h1 | h1
              · exact hM m h1
              · rw [h1]; exact h⟩, Wk.sub ⟨rfl, rfl, by simp only [← wrapS (show n < 9223372036854775807 by omega)]; rfl, rfl, rfl, rfl, trivial⟩⟩
        · have hnM : n = M.length := by omega
          subst hnM
          have hnot : incT (s.allocs.getD k default) t ∉ M := fun hm => by
            obtain ⟨j, hj, e⟩ := List.getElem_of_mem hm
            exact hM j hj (by simp [List.getD_eq_getElem?_getD, hj, e])
          have hs := hsucc ht2
          (refine onB_mk (fun hr => ?_) (fun hr => ?_) <;> (have h := hr) <;> (try simp [-List.getD_eq_getElem?_getD, wl, List.getD_cons_zero, List.getD_cons_succ] at h) <;> (conv => whnf) <;> repeat ((first | refine SeqW.go ?_ | refine And.intro trivial ?_ | refine And.intro (And.intro (Nat.le_of_ble_eq_true rfl) (Nat.le_of_ble_eq_true rfl)) ?_ | refine And.intro (And.intro (Nat.le_of_ble_eq_true rfl) (oneRows_of rfl)) ?_ | refine And.intro (And.intro (Nat.eq_of_beq_eq_true rfl) (And.intro (oneRows_of rfl) (Nat.le_of_ble_eq_true rfl))) ?_ | refine And.intro (Nat.le_of_ble_eq_true rfl) ?_ | refine And.intro (And.intro (by omega) (by omega)) ?_ | refine And.intro (by omega) ?_ | refine And.intro (And.intro (by decide) (by decide)) ?_ | intro _ | refine And.intro rfl ?_ | refine onB_t (by with_reducible assumption) ?_ | refine onB_f (by with_reducible assumption) ?_) <;> (conv => whnf)))
          · have h0 : incT (s.allocs.getD k default) t ≠ 0 := h
            rw [if_pos h0] at hs
            have hh : 0 + M.length = (rowsI M).length ∧ oneRows [[I (incT (s.allocs.getD k default) t)]] ∧ (M.length + 1) * 8 ≤ 140737488355328 := ⟨by simp, oneRows_of rfl, by omega⟩
            refine And.intro hh ?_ <;> (conv => whnf) <;> repeat ((first | refine SeqW.go ?_ | refine And.intro trivial ?_ | refine And.intro (And.intro (Nat.le_of_ble_eq_true rfl) (Nat.le_of_ble_eq_true rfl)) ?_ | refine And.intro (And.intro (Nat.le_of_ble_eq_true rfl) (oneRows_of rfl)) ?_ | refine And.intro (And.intro (Nat.eq_of_beq_eq_true rfl) (And.intro (oneRows_of rfl) (Nat.le_of_ble_eq_true rfl))) ?_ | refine And.intro (Nat.le_of_ble_eq_true rfl) ?_ | refine And.intro (And.intro (by omega) (by omega)) ?_ | refine And.intro (by omega) ?_ | refine And.intro (And.intro (by decide) (by decide)) ?_ | intro _ | refine And.intro rfl ?_ | refine onB_t (by with_reducible assumption) ?_ | refine onB_f (by with_reducible assumption) ?_) <;> (conv => whnf))
            exact ⟨t + 1, by omega, ⟨by omega, by rw [hs]; exact List.nodup_append.2 ⟨hD, by simp, fun x hx y hy => by rw [List.mem_singleton.1 hy]; exact fun e => hnot (e ▸ hx)⟩⟩, Wk.re (fun i => if i = 1 then 4 else i) rfl (nofun) (injL rfl) ⟨⟨rfl, rfl⟩, ⟨by simp only [← wrapS (show t < 9223372036854775807 by omega)]; rfl, rfl⟩, ⟨rfl, rfl⟩, ⟨by rw [hs, List.length_append]; rfl, rfl⟩, ⟨rfl, rfl⟩, trivial⟩
              ⟨⟨rfl, _, rfl, .inl ⟨rfl, free1 rfl⟩, nofun⟩, ⟨rfl, _, rfl, .inl ⟨by rw [hs]; simp only [rowsI, List.map_append]; rfl, freeI⟩, nofun⟩, ⟨rfl, _, rfl, .inl ⟨rfl, free1 rfl⟩, nofun⟩, trivial⟩⟩
          · have h0 : ¬ incT (s.allocs.getD k default) t ≠ 0 := fun hh => hh h
            rw [if_neg h0, List.append_nil] at hs
            exact ⟨t + 1, by omega, ⟨by omega, by rw [hs]; exact hD⟩, Wk.cut rfl ⟨⟨rfl, rfl⟩, ⟨by simp only [← wrapS (show t < 9223372036854775807 by omega)]; rfl, rfl⟩, ⟨rfl, rfl⟩, ⟨by rw [hs]; rfl, rfl⟩, ⟨rfl, rfl⟩, trivial⟩
              ⟨⟨rfl, rfl, row1 rfl, nofun⟩, ⟨by rw [hs]; rfl, rfl, bd_rows freeI, nofun⟩, ⟨rfl, rfl, row1 rfl, nofun⟩, trivial⟩⟩
      · have htt : t = (s.allocs.getD k default).tasks.length := by omega
        subst htt
        have hs : incsL (s.allocs.take (k + 1)) = M := by rw [takeS hi2, incsL_snoc, hLe, hMe]
        exact ⟨k + 1, by omega, ⟨by omega, fun m hm q hq => by
            rcases Nat.lt_succ_iff_lt_or_eq.1 hm with h1 | h1
            · exact hP m h1 q hq
            · subst h1; exact hQ q hq, by rw [hs]; exact hD⟩, Wk.cut rfl ⟨⟨rfl, rfl⟩, ⟨by rw [hs]; rfl, rfl⟩, ⟨by simp only [← wrapS (show k < 9223372036854775807 by omega)]; rfl, rfl⟩, trivial⟩
          ⟨⟨by rw [hs]; rfl, rfl, bd_rows freeI, nofun⟩, ⟨rfl, rfl, row1 rfl, nofun⟩, trivial⟩⟩
  · have hil : i = s.allocs.length := by omega
    subst hil
    rw [List.take_length] at hLe
    exact ret_now _ (by_t ⟨hP, by rw [hLe]; exact hN⟩)
end Go.Proofs.YtajpldeffhagaaaGreat
