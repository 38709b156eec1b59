/- The tasks of an allocation. -/
import Derived.Test.YtajpldeffhagaaaGreatC9
namespace Go.Proofs.YtajpldeffhagaaaGreat
open Go.RowKit E
set_option maxRecDepth 100000
set_option linter.unusedVariables false
set_option linter.unusedSimpArgs false
def endsT (st : Int) : Prop := st = 4 ∨ st = 5 ∨ overT st
def endOk (stop : Bool) (st : Int) : Prop := (stop = true → endsT st) ∧ (stop = false → st ≠ 4)
def tkOk (a : Alloc) (next : Int) (t : Task) : Prop := errT t = 0 ∧ t.inc < next ∧ endOk a.stop t.state
def incT (a : Alloc) (j : Nat) : Int := (a.tasks.getD j default).inc
def tksTo (a : Alloc) (next : Int) (p : Int → Bool) (k : Nat) : Prop := ∀ j, j < k → tkOk a next (a.tasks.getD j default) ∧ (incT a j ≠ 0 → p (incT a j) = false ∧ ∀ i, i < j → incT a i ≠ incT a j)
def tksOk (a : Alloc) (next : Int) (p : Int → Bool) : Prop := a.tasks.length = a.spec.tasks.length ∧ tksTo a next p a.tasks.length
def incMap (a : Alloc) (p : Int → Bool) (k : Nat) (q : Int → Bool) : Prop := ∀ z, q z = true ↔ p z = true ∨ ∃ i, i < k ∧ incT a i = z
theorem tksTo_succ {a : Alloc} {next : Int} {p : Int → Bool} {k : Nat} (h : tksTo a next p k) (h1 : tkOk a next (a.tasks.getD k default)) (h2 : incT a k ≠ 0 → p (incT a k) = false ∧ ∀ i, i < k → incT a i ≠ incT a k) : tksTo a next p (k + 1) := fun j hj => by
  rcases Nat.lt_succ_iff_lt_or_eq.1 hj with h3 | rfl
  · exact h j h3
  · exact ⟨h1, h2⟩
abbrev mapB (p : Int → Bool) : Blk := ⟨0, [], some (.bset .i64 p)⟩
theorem ret_map {n0 : Nat} {x : AV} {H : Hp} {K : AV → Hp → Prop} (q : Int → Bool) (hx : x.bd 1 = true) (hn : Nat.ble n0 1 = true) (hg : H.get 0 = some (mapB q)) (hk : K x ⟨1, [(0, some (mapB q))]⟩) : ∃ x1 H1, Wk n0 [(0, x)] H [(0, x1)] H1 ∧ K x1 H1 :=
  ⟨x, ⟨1, [(0, some (mapB q))]⟩, Wk.cut hn ⟨⟨rfl, hx⟩, trivial⟩ ⟨⟨hg, rfl, nofun, nofun⟩, trivial⟩, hk⟩
open Classical in
set_option maxHeartbeats 4000000 in
theorem tasks_a (a : Alloc) (next : Int) (p : Int → Bool) (hs : ∀ j, 0 ≤ (a.tasks.getD j default).state) :
    E.ACalls Tryz.prog 59 [a.av, I next, .mp 0] ⟨1, [(0, some (mapB p))]⟩ fun x H' => ∃ q, x = B (decide (tksOk a next p)) ∧ H' = ⟨1, [(0, some (mapB q))]⟩ ∧ (tksOk a next p → incMap a p a.tasks.length q) := by
  refine ACalls.ev Tryz.f59 mx Tryz.func59 (by kernel_rfl) rfl ?_ <;> (conv => whnf) <;> repeat (first | (refine And.intro trivial ?_ <;> (conv => whnf)) | (refine And.intro (And.intro (Nat.le_of_ble_eq_true rfl) (Nat.le_of_ble_eq_true rfl)) ?_ <;> (conv => whnf)) | (refine And.intro (And.intro (Nat.le_of_ble_eq_true rfl) (oneRows_of rfl)) ?_ <;> (conv => whnf)) | (refine And.intro (And.intro (Nat.eq_of_beq_eq_true rfl) (And.intro (oneRows_of rfl) (Nat.le_of_ble_eq_true rfl))) ?_ <;> (conv => whnf)) | (refine And.intro (Nat.le_of_ble_eq_true rfl) ?_ <;> (conv => whnf)) | (refine And.intro (And.intro (by omega) (by omega)) ?_ <;> (conv => whnf)) | (refine And.intro (by omega) ?_ <;> (conv => whnf)) | (refine And.intro (And.intro (by decide) (by decide)) ?_ <;> (conv => whnf)) | (intro _ <;> (conv => whnf)) | (refine And.intro rfl ?_ <;> (conv => whnf)) | (refine onB_t (by with_reducible assumption) ?_ <;> (conv => whnf)) | (refine onB_f (by with_reducible assumption) ?_ <;> (conv => whnf)))
  (refine onB_mk (fun hr => ?_) (fun hr => ?_) <;> (have h := hr) <;> (try simp [-List.getD_eq_getElem?_getD, wl, List.getD_cons_zero, List.getD_cons_succ] at h) <;> (conv => whnf) <;> repeat (first | (refine And.intro trivial ?_ <;> (conv => whnf)) | (refine And.intro (And.intro (Nat.le_of_ble_eq_true rfl) (Nat.le_of_ble_eq_true rfl)) ?_ <;> (conv => whnf)) | (refine And.intro (And.intro (Nat.le_of_ble_eq_true rfl) (oneRows_of rfl)) ?_ <;> (conv => whnf)) | (refine And.intro (And.intro (Nat.eq_of_beq_eq_true rfl) (And.intro (oneRows_of rfl) (Nat.le_of_ble_eq_true rfl))) ?_ <;> (conv => whnf)) | (refine And.intro (Nat.le_of_ble_eq_true rfl) ?_ <;> (conv => whnf)) | (refine And.intro (And.intro (by omega) (by omega)) ?_ <;> (conv => whnf)) | (refine And.intro (by omega) ?_ <;> (conv => whnf)) | (refine And.intro (And.intro (by decide) (by decide)) ?_ <;> (conv => whnf)) | (intro _ <;> (conv => whnf)) | (refine And.intro rfl ?_ <;> (conv => whnf)) | (refine onB_t (by with_reducible assumption) ?_ <;> (conv => whnf)) | (refine onB_f (by with_reducible assumption) ?_ <;> (conv => whnf))))
  · exact ret_map p rfl rfl rfl ⟨p, by_f fun ho => by have := ho.1; omega, rfl, fun ho => by have := ho.1; omega⟩
  · have hl : a.tasks.length = a.spec.tasks.length := by omega
    refine loop_st (S := Nat × (Int → Bool)) (fun z => [(1, I next), (2, .mp 0), (3, .hptr 1 10 0 0), (19, .sl 8 a.tasks.length fun i => Task.fv (a.tasks.getD i default)), (20, I a.tasks.length), (21, I z.1)])
      (fun z => ⟨2, [(1, some ⟨10, [a.fv.map FV.up], none⟩), (0, some (mapB z.2))]⟩) (fun z => z.1 ≤ a.tasks.length ∧ tksTo a next p z.1 ∧ incMap a p z.1 z.2) (fun z => a.tasks.length - z.1) (0, p)
      (Wk.cut rfl ⟨⟨rfl, rfl⟩, ⟨rfl, rfl⟩, ⟨rfl, rfl⟩, ⟨rfl, rfl⟩, ⟨rfl, rfl⟩, ⟨rfl, rfl⟩, trivial⟩ ⟨⟨rfl, rfl, row1 rfl, nofun⟩, ⟨rfl, rfl, nofun, nofun⟩, trivial⟩) ⟨Nat.zero_le _, fun j hj => absurd hj (Nat.not_lt_zero j), fun z => by simp⟩ ?_
    rintro ⟨k, q⟩ ⟨hk, hT, hq⟩
    dsimp only at hk hT hq
    (conv => whnf) <;> repeat (first | (refine And.intro trivial ?_ <;> (conv => whnf)) | (refine And.intro (And.intro (Nat.le_of_ble_eq_true rfl) (Nat.le_of_ble_eq_true rfl)) ?_ <;> (conv => whnf)) | (refine And.intro (And.intro (Nat.le_of_ble_eq_true rfl) (oneRows_of rfl)) ?_ <;> (conv => whnf)) | (refine And.intro (And.intro (Nat.eq_of_beq_eq_true rfl) (And.intro (oneRows_of rfl) (Nat.le_of_ble_eq_true rfl))) ?_ <;> (conv => whnf)) | (refine And.intro (Nat.le_of_ble_eq_true rfl) ?_ <;> (conv => whnf)) | (refine And.intro (And.intro (by omega) (by omega)) ?_ <;> (conv => whnf)) | (refine And.intro (by omega) ?_ <;> (conv => whnf)) | (refine And.intro (And.intro (by decide) (by decide)) ?_ <;> (conv => whnf)) | (intro _ <;> (conv => whnf)) | (refine And.intro rfl ?_ <;> (conv => whnf)) | (refine onB_t (by with_reducible assumption) ?_ <;> (conv => whnf)) | (refine onB_f (by with_reducible assumption) ?_ <;> (conv => whnf)))
    (refine onB_mk (fun hr => ?_) (fun hr => ?_) <;> (have h := hr) <;> (try simp [-List.getD_eq_getElem?_getD, wl, List.getD_cons_zero, List.getD_cons_succ] at h) <;> (conv => whnf) <;> repeat (first | (refine And.intro trivial ?_ <;> (conv => whnf)) | (refine And.intro (And.intro (Nat.le_of_ble_eq_true rfl) (Nat.le_of_ble_eq_true rfl)) ?_ <;> (conv => whnf)) | (refine And.intro (And.intro (Nat.le_of_ble_eq_true rfl) (oneRows_of rfl)) ?_ <;> (conv => whnf)) | (refine And.intro (And.intro (Nat.eq_of_beq_eq_true rfl) (And.intro (oneRows_of rfl) (Nat.le_of_ble_eq_true rfl))) ?_ <;> (conv => whnf)) | (refine And.intro (Nat.le_of_ble_eq_true rfl) ?_ <;> (conv => whnf)) | (refine And.intro (And.intro (by omega) (by omega)) ?_ <;> (conv => whnf)) | (refine And.intro (by omega) ?_ <;> (conv => whnf)) | (refine And.intro (And.intro (by decide) (by decide)) ?_ <;> (conv => whnf)) | (intro _ <;> (conv => whnf)) | (refine And.intro rfl ?_ <;> (conv => whnf)) | (refine onB_t (by with_reducible assumption) ?_ <;> (conv => whnf)) | (refine onB_f (by with_reducible assumption) ?_ <;> (conv => whnf))))
    · have hk2 : k < a.tasks.length := h
      have hqk := hq (incT a k)
      have hnot : (errT (a.tasks.getD k default) = 0 ∧ (a.tasks.getD k default).inc < next ∧ endOk a.stop (a.tasks.getD k default).state ∧ ((a.tasks.getD k default).inc ≠ 0 → q (incT a k) = false) → False) → ¬ tksOk a next p := fun hc ho => by
        obtain ⟨⟨e1, e2, e3⟩, e5⟩ := ho.2 k hk2
        refine hc ⟨e1, e2, e3, fun h0 => ?_⟩
        obtain ⟨f1, f2⟩ := e5 h0
        cases hb : q (incT a k)
        · rfl
        · rcases hqk.1 hb with g | ⟨i, hi, g⟩
          · rw [f1] at g; cases g
          · exact absurd g (f2 i hi)
      have hyes : errT (a.tasks.getD k default) = 0 → (a.tasks.getD k default).inc < next → endOk a.stop (a.tasks.getD k default).state → ((a.tasks.getD k default).inc ≠ 0 → q (incT a k) = false) → tksTo a next p (k + 1) := fun e1 e2 e3 e4 =>
        tksTo_succ hT ⟨e1, e2, e3⟩ fun h0 => by
          have h1 := e4 h0
          refine ⟨?_, fun i hi e => ?_⟩
          · cases hb : p (incT a k)
            · rfl
            · rw [hqk.2 (.inl hb)] at h1; cases h1
          · rw [hqk.2 (.inr ⟨i, hi, e⟩)] at h1; cases h1
      have hmap : incMap a p (k + 1) (fun z => bif decide (z = (a.tasks.getD k default).inc) then true else q z) := fun z => by
        by_cases c : z = (a.tasks.getD k default).inc
        · simp only [c, decide_true, cond_true, true_iff]
          exact .inr ⟨k, by omega, rfl⟩
        · simp only [c, decide_false, cond_false, hq z]
          constructor
          · rintro (h | ⟨i, hi, h⟩)
            · exact .inl h
            · exact .inr ⟨i, by omega, h⟩
          · rintro (h | ⟨i, hi, h⟩)
            · exact .inl h
            · rcases Nat.lt_succ_iff_lt_or_eq.1 hi with h1 | h1
              · exact .inr ⟨i, h1, h⟩
              · rw [h1] at h; exact absurd h.symm c
      clear hq hT hqk
      have hfr := hs k
      (first | refine Pure.call (taskCheck_p _ (hs k)) ?_ | refine ⟨_, taskCheck_p _ (hs k), ?_⟩) <;> (conv => whnf) <;> repeat (first | (refine And.intro trivial ?_ <;> (conv => whnf)) | (refine And.intro (And.intro (Nat.le_of_ble_eq_true rfl) (Nat.le_of_ble_eq_true rfl)) ?_ <;> (conv => whnf)) | (refine And.intro (And.intro (Nat.le_of_ble_eq_true rfl) (oneRows_of rfl)) ?_ <;> (conv => whnf)) | (refine And.intro (And.intro (Nat.eq_of_beq_eq_true rfl) (And.intro (oneRows_of rfl) (Nat.le_of_ble_eq_true rfl))) ?_ <;> (conv => whnf)) | (refine And.intro (Nat.le_of_ble_eq_true rfl) ?_ <;> (conv => whnf)) | (refine And.intro (And.intro (by omega) (by omega)) ?_ <;> (conv => whnf)) | (refine And.intro (by omega) ?_ <;> (conv => whnf)) | (refine And.intro (And.intro (by decide) (by decide)) ?_ <;> (conv => whnf)) | (intro _ <;> (conv => whnf)) | (refine And.intro rfl ?_ <;> (conv => whnf)) | (refine onB_t (by with_reducible assumption) ?_ <;> (conv => whnf)) | (refine onB_f (by with_reducible assumption) ?_ <;> (conv => whnf)))
      repeat' (first
        | ((refine onB_mk (fun hr => ?_) (fun hr => ?_) <;> (have h := hr) <;> (try simp [-List.getD_eq_getElem?_getD, wl, List.getD_cons_zero, List.getD_cons_succ] at h) <;> (conv => whnf) <;> repeat (first | (refine And.intro trivial ?_ <;> (conv => whnf)) | (refine And.intro (And.intro (Nat.le_of_ble_eq_true rfl) (Nat.le_of_ble_eq_true rfl)) ?_ <;> (conv => whnf)) | (refine And.intro (And.intro (Nat.le_of_ble_eq_true rfl) (oneRows_of rfl)) ?_ <;> (conv => whnf)) | (refine And.intro (And.intro (Nat.eq_of_beq_eq_true rfl) (And.intro (oneRows_of rfl) (Nat.le_of_ble_eq_true rfl))) ?_ <;> (conv => whnf)) | (refine And.intro (Nat.le_of_ble_eq_true rfl) ?_ <;> (conv => whnf)) | (refine And.intro (And.intro (by omega) (by omega)) ?_ <;> (conv => whnf)) | (refine And.intro (by omega) ?_ <;> (conv => whnf)) | (refine And.intro (And.intro (by decide) (by decide)) ?_ <;> (conv => whnf)) | (intro _ <;> (conv => whnf)) | (refine And.intro rfl ?_ <;> (conv => whnf)) | (refine onB_t (by with_reducible assumption) ?_ <;> (conv => whnf)) | (refine onB_f (by with_reducible assumption) ?_ <;> (conv => whnf)))))
        | ((first | refine Pure.call (taskOver_p _) ?_ | refine ⟨_, taskOver_p _, ?_⟩) <;> (conv => whnf) <;> repeat (first | (refine And.intro trivial ?_ <;> (conv => whnf)) | (refine And.intro (And.intro (Nat.le_of_ble_eq_true rfl) (Nat.le_of_ble_eq_true rfl)) ?_ <;> (conv => whnf)) | (refine And.intro (And.intro (Nat.le_of_ble_eq_true rfl) (oneRows_of rfl)) ?_ <;> (conv => whnf)) | (refine And.intro (And.intro (Nat.eq_of_beq_eq_true rfl) (And.intro (oneRows_of rfl) (Nat.le_of_ble_eq_true rfl))) ?_ <;> (conv => whnf)) | (refine And.intro (Nat.le_of_ble_eq_true rfl) ?_ <;> (conv => whnf)) | (refine And.intro (And.intro (by omega) (by omega)) ?_ <;> (conv => whnf)) | (refine And.intro (by omega) ?_ <;> (conv => whnf)) | (refine And.intro (And.intro (by decide) (by decide)) ?_ <;> (conv => whnf)) | (intro _ <;> (conv => whnf)) | (refine And.intro rfl ?_ <;> (conv => whnf)) | (refine onB_t (by with_reducible assumption) ?_ <;> (conv => whnf)) | (refine onB_f (by with_reducible assumption) ?_ <;> (conv => whnf)))))
      all_goals (clear hfr)
      all_goals first
        | exact ret_map _ rfl rfl rfl ⟨_, by_f (hnot fun hc => by obtain ⟨e1, e2, ⟨e3, e4⟩, e5⟩ := hc; omega), rfl, fun ho => absurd ho (hnot fun hc => by obtain ⟨e1, e2, ⟨e3, e4⟩, e5⟩ := hc; omega)⟩
        | exact ret_map _ rfl rfl rfl ⟨_, by_f (hnot fun hc => by obtain ⟨e1, e2, ⟨e3, e4⟩, e5⟩ := hc; clear hnot hyes hmap; simp only [endsT, overT, incT] at *; simp_all), rfl, fun ho => absurd ho (hnot fun hc => by obtain ⟨e1, e2, ⟨e3, e4⟩, e5⟩ := hc; clear hnot hyes hmap; simp only [endsT, overT, incT] at *; simp_all)⟩
        | exact ⟨(k + 1, _), by dsimp only; omega, ⟨by dsimp only; omega, hyes (by omega) (by omega) ⟨by simp only [endsT, overT] at *; simp_all, by simp only [endsT, overT] at *; simp_all⟩ (by simp only [incT] at *; simp_all), hmap⟩, Wk.cut rfl ⟨⟨rfl, rfl⟩, ⟨rfl, rfl⟩, ⟨rfl, rfl⟩, ⟨rfl, rfl⟩, ⟨rfl, rfl⟩, ⟨by simp only [← wrapS (show k < 9223372036854775807 by omega)]; rfl, rfl⟩, trivial⟩ ⟨⟨rfl, rfl, row1 rfl, nofun⟩, ⟨rfl, rfl, nofun, nofun⟩, trivial⟩⟩
        | skip
    · have hkl : k = a.tasks.length := by omega
      subst hkl
      exact ret_map q rfl rfl rfl ⟨q, by_t ⟨hl, hT⟩, rfl, fun _ => hq⟩
end Go.Proofs.YtajpldeffhagaaaGreat
