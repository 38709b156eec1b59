/- The converse: a contract of the old kind (Calls) is a contract of the engine's. -/
import Derived.Test.YtdblhmpcilihnaaGreatEncData
namespace Go.Proofs.YtdblhmpcilihnaaGreat
open Go.RowKit E
set_option linter.unusedVariables false
set_option linter.unusedSimpArgs false
theorem pure_of_calls {P : Program} {g : FuncId} {args : List AV} {r : AV} (fn : Func) (hf : P.funcs[g]? = some fn) (hb : fn.body.isNone = false) (hn : (fn.name == "runtime.NumGoroutine") = false) (fa : freeL args = true) (fr : r.free = true)
    (h : ∀ (F : Nat → Prop) (w : World) (vs : Array Value), (∀ b, F b → b < w.heap.size) → Rs 0 (fun _ => none) F w args vs → Calls P g vs w fun e w' => ∃ v, e = .returned v ∧ Below w.heap.size w w' ∧ AR (fun id => id < 0) (fun _ => none) F w' r v) : E.Pure P g args r := by
  refine ⟨⟨⟨fn, hf, hb, hn⟩, fun σ F w vs hw hr => ?_⟩, fa, fr⟩
  have hr0 : Rs 0 (fun _ => none) F w args vs := ⟨hr.1, fun i x hx => (hr.2 i x hx).toFree (freeL_get fa hx)⟩
  refine (h F w vs hw.frz hr0).mono ?_
  rintro e w' ⟨v, rfl, hB, hx⟩
  refine ⟨v, rfl, r, σ, F, ⟨0, []⟩, rfl, ⟨⟨Nat.le_refl _, Nat.le_refl _⟩, fun _ _ => rfl, fun _ h => h, fun _ h => .inl h, fun b hb _ => hB.block b hb, fun b cs el z hc => ?_, fun _ h => .inl h, hB.size, hB.os, hB.tape, hB.output⟩,
    ⟨fun id blk hg => by simp [Hp.get, E.blkOf_nil, E.blkOf_cons] at hg, fun id id' blk blk' b o o' hg => by simp [Hp.get, E.blkOf_nil, E.blkOf_cons] at hg, fun b hb => Nat.lt_of_lt_of_le (hw.frz b hb) hB.size⟩, hx.toFree fr⟩
  have hlt := (Array.getElem?_eq_some_iff.1 hc).1
  exact ⟨cs, by rw [hB.block b hlt]; exact hc, rfl⟩
theorem cells_intsK {k : IntKind} {w : World} : ∀ l : List Int, Kn.Cells (Kn.int k) w l (l.map (Value.int k))
  | [] => rfl
  | x :: xs => ⟨[.int k x], _, rfl, rfl, cells_intsK xs⟩
theorem sl_of_frel {F : Nat → Prop} {w : World} {k : IntKind} {l : List Int} {v : Value} (hF : ∀ b, F b → b < w.heap.size) (h : FRel F w (.sl 1 l.length fun i => [.val (.int k (l.getD i 0))]) v) :
    ∃ A c, v = .slice A l.length c ∧ (l.length ≤ c ∧ c ≤ maxLen) ∧ Kn.Sl (Kn.int k) w A l := by
  cases h with
  | sl _ _ _ A c u b off hc hA hl hu hr =>
    refine ⟨A, c, rfl, hc, _, cells_intsK l, fun hp => ?_⟩
    have hp' : 0 < l.length := by simpa using hp
    refine ⟨b, off, (hA hp').1, hF b (hA hp').2, fun j y hy => ?_⟩
    have hj : j < l.length := by have := (List.getElem?_eq_some_iff.1 hy).1; simpa using this
    have h1 := hu j 0 hj (by omega)
    have h2 := hr j 0 _ hj rfl
    generalize u j 0 = z at h1 h2
    cases h2
    rw [Nat.mul_one, Nat.add_zero] at h1
    rw [h1]
    rw [List.getElem?_map] at hy
    simpa [List.getD_eq_getElem?_getD, hj] using hy
/-- A struct's cells, one by one. -/
theorem agg_cells {N : Nat} {σ : Sg} {F : Nat → Prop} {w : World} {l : List AV} {v : Value} (h : AR N σ F w (.agg l) v) : ∃ vs : Array Value, v = .agg vs ∧ vs.size = l.length ∧ ∀ (i : Nat) x, l[i]? = some x → AR N σ F w x (vs.getD i undef) := by
  cases h with
  | agg _ vs hl h => exact ⟨vs, rfl, hl, h⟩
theorem val_eq {N : Nat} {σ : Sg} {F : Nat → Prop} {w : World} {u v : Value} (h : AR N σ F w (.val u) v) : v = u := by cases h; rfl
theorem ints_of {N : Nat} {σ : Sg} {F : Nat → Prop} {w : World} {k : IntKind} {l : List Int} {v : Value} (hF : ∀ b, F b → b < w.heap.size) (h : AR N σ F w (.sl 1 l.length fun i => [.val (.int k (l.getD i 0))]) v) :
    ∃ A c, v = .slice A l.length c ∧ (l.length ≤ c ∧ c ≤ maxLen) ∧ Kn.Sl (Kn.int k) w A l := by
  cases h with
  | sl _ _ _ _ h => exact sl_of_frel hF h
end Go.Proofs.YtdblhmpcilihnaaGreat
