/- The set of numbers that a map with bool values holds; laying in, striking and asking as laws of the walk. -/
import Derived.Test.YtdblhmpcilihnaaGreatData
import Derived.Test.YtdblhmpcilihnaaGreatRows
import Derived.WalkKit
import Derived.ProofKit
import Derived.Lib.Hide
import Derived.Deep.RegionHeld3
import Derived.Deep.DeepCutAuto
import Derived.Deep.LoopGhost
import Derived.BigQuiet
import Derived.WalkLawsBesides
import Derived.WalkSpells
import Derived.Test.YtdblhmpcilihnaaGreatPortsPure
import Derived.Maps.RangeWalk
import Derived.Maps.OwnOps
import Derived.Maps.Views
set_option maxRecDepth 100000
namespace Go.Proofs.YtdblhmpcilihnaaGreat
open Go.ChangeShapes Go.WideShapes Go.ChangeAt Go.RowKit
set_option linter.unusedVariables false
set_option linter.unusedSimpArgs false
open Go.Maps
def SetOf (D : DataW Unit) (S : List Int) : Prop := IsMap D ∧ ∀ x : Int, has D (.int .i64 x) = decide (x ∈ S) ∧ D.atKey (.int .i64 x) (.lit (.bool false)) = .lit (.bool (decide (x ∈ S)))
theorem SetOf.nil : SetOf (.map []) [] := ⟨⟨[], rfl⟩, fun x => ⟨rfl, rfl⟩⟩
theorem lit_ne {x y : Int} (h : y ≠ x) : (Lit.int .i64 y) ≠ (Lit.int .i64 x) := fun e => h (by injection e)
theorem SetOf.put {D : DataW Unit} {S : List Int} (h : SetOf D S) (x : Int) : SetOf (D.put (.int .i64 x) (.lit (.bool true))) (S ++ [x]) := by
  refine ⟨?_, fun y => ?_⟩
  · obtain ⟨⟨es, rfl⟩, _⟩ := h; exact ⟨_, rfl⟩
  · by_cases hy : y = x
    · subst hy
      exact ⟨by rw [has_put_same h.1 (k := .int .i64 y) (by simp [WideAt.IsKeyLit])]; simp, by rw [atKey_put_same h.1 (k := .int .i64 y) (by simp [WideAt.IsKeyLit])]; simp⟩
    · obtain ⟨h1, h2⟩ := h.2 y
      exact ⟨by rw [has_put_other (lit_ne hy), h1]; simp [hy], by rw [atKey_put_other (lit_ne hy), h2]; simp [hy]⟩
theorem SetOf.del {D : DataW Unit} {S : List Int} (h : SetOf D S) (x : Int) : SetOf (D.del (.int .i64 x)) (S.filter fun y => y ≠ x) := by
  refine ⟨?_, fun y => ?_⟩
  · obtain ⟨⟨es, rfl⟩, _⟩ := h; exact ⟨_, rfl⟩
  · by_cases hy : y = x
    · subst hy
      exact ⟨by rw [has_del_same]; simp, by rw [atKey_del_same]; simp⟩
    · obtain ⟨h1, h2⟩ := h.2 y
      exact ⟨by rw [has_del_other (lit_ne hy), h1]; simp [hy], by rw [atKey_del_other (lit_ne hy), h2]; simp [hy]⟩
theorem SetOf.ext {D : DataW Unit} {S S' : List Int} (h : SetOf D S) (hm : ∀ x, x ∈ S ↔ x ∈ S') : SetOf D S' :=
  ⟨h.1, fun x => ⟨by rw [(h.2 x).1]; simp [hm], by rw [(h.2 x).2]; simp [hm]⟩⟩
abbrev keyedInt : Keyed Tryz.prog 3 := int_keyed Tryz.underlying3
/-- Block b is a set: what it holds. -/
def SetAt (w : World) (b n : Nat) (S : List Int) : Prop := ∃ D, w.ownsMap Tryz.prog 3 (plainElem Tryz.prog 4) b n D ∧ SetOf D S
theorem setElem_true (x : Bool) : plainElem (H := Unit) Tryz.prog 4 (.bool x) = some (.lit (.bool x), []) := plainElem_bool Tryz.underlying4 x
theorem setElem_inv {v : Value} {x : Bool} {ps : List MemPlace} (h : plainElem (H := Unit) Tryz.prog 4 v = some (.lit (.bool x), ps)) : v = .bool x := by
  unfold plainElem at h
  rw [Tryz.underlying4] at h
  cases v <;> simp at h
  simp [h.1]
section
variable {w w' : World} {b n : Nat} {S : List Int}
theorem SetAt.made (w : World) : SetAt (w.alloc (.map #[] 0)) w.heap.size 0 [] := ⟨_, World.ownsMap_made w _ _ _, SetOf.nil⟩
theorem SetAt.mono (h : SetAt w b n S) {m : Nat} (hm : n ≤ m) : SetAt w b m S := by obtain ⟨D, h1, h2⟩ := h; exact ⟨D, h1.mono hm, h2⟩
theorem SetAt.ext (h : SetAt w b n S) {S' : List Int} (hm : ∀ x, x ∈ S ↔ x ∈ S') : SetAt w b n S' := by obtain ⟨D, h1, h2⟩ := h; exact ⟨D, h1, h2.ext hm⟩
theorem SetAt.lt (h : SetAt w b n S) : b < w.heap.size := by obtain ⟨D, h1, _⟩ := h; exact h1.lt
theorem SetAt.kept {row : Option Nat} (h : SetAt w b n S) (hg : w.grownBy w' row) (hne : some b ≠ row) : SetAt w' b n S := by obtain ⟨D, h1, h2⟩ := h; exact ⟨D, h1.kept hg hne, h2⟩
theorem SetAt.below (h : SetAt w b n S) (hb : Below w.heap.size w w') : SetAt w' b n S := by
  obtain ⟨D, h1, h2⟩ := h
  have hlt := h1.lt
  obtain ⟨es, clock, hbl, F, hs, hD⟩ := h1
  exact ⟨D, ⟨es, clock, (hb.block b hlt).trans hbl, F, hs, hD⟩, h2⟩
variable {ops : Array Oper} {rest : List Oper} {o : Oper} {a : Act} {Q : Exit → Act → World → Prop}
theorem wpList_put_set (hg : o.guard = none) (m x v : Operand) (hop : o.op = Op.insert 65 m x v ∨ o.op = Op.mapUpdate 65 m x v)
    (hm : a.eval m = .map (some b)) (h : SetAt w b n S) (hn : n < maxLen) (p : Int) (hw : (Lit.int .i64 p).wf = true) (hx : a.eval x = .int .i64 p) (hv : a.eval v = .bool true)
    (hK : ∀ w', SetAt w' b (n + 1) (S ++ [p]) → w.grownBy w' (some b) → wpList Tryz.prog ops Q rest (a.put o.dst undef) w') : wpList Tryz.prog ops Q (o :: rest) a w := by
  refine wpList_plain hg fun K' hK' => ?_
  obtain ⟨D, h1, h2⟩ := h
  obtain ⟨w', hrun, r1, r2⟩ := h1.update keyedInt Tryz.underlying65 hn (keyOf_int_mk Tryz.underlying3 hw) (setElem_true true)
  unfold Oper.wp
  rcases hop with hop | hop
  · simp [execOp, hop, hm, hx, hv, hrun, Result.andThen]
    exact hK' _ _ (hK w' ⟨_, r1, h2.put p⟩ r2)
  · simp [execOp, hop, hm, hx, hv, hrun, Result.andThen]
    exact hK' _ _ (hK w' ⟨_, r1, h2.put p⟩ r2)
theorem wpList_look_set (hg : o.guard = none) (m x : Operand) (hop : o.op = Op.lookup 65 m x false)
    (hm : a.eval m = .map (some b)) (h : SetAt w b n S) (p : Int) (hw : (Lit.int .i64 p).wf = true) (hx : a.eval x = .int .i64 p)
    (hK : wpList Tryz.prog ops Q rest (a.put o.dst (.bool (decide (p ∈ S)))) w) : wpList Tryz.prog ops Q (o :: rest) a w := by
  refine wpList_plain hg fun K' hK' => ?_
  obtain ⟨D, h1, h2⟩ := h
  obtain ⟨v, ps, hrun, r1⟩ := h1.lookup keyedInt Tryz.underlying65 (Tryz.zeroValue4 w) (setElem_true false) (keyOf_int_mk Tryz.underlying3 hw)
  rw [(h2.2 p).2] at r1
  obtain rfl := setElem_inv r1
  unfold Oper.wp
  simp [execOp, hop, hm, hx, hrun, Result.andThen]
  exact hK' _ _ hK
theorem wpList_del_set (hg : o.guard = none) (m x : Operand) (hop : o.op = Op.call { callee := Callee.builtin Builtin.delete, args := #[m, x], argTypes := #[65, 3] })
    (hm : a.eval m = .map (some b)) (h : SetAt w b n S) (p : Int) (hw : (Lit.int .i64 p).wf = true) (hx : a.eval x = .int .i64 p)
    (hK : ∀ w', SetAt w' b n (S.filter fun y => y ≠ p) → w.grownBy w' (some b) → wpList Tryz.prog ops Q rest (a.put o.dst (.tuple #[])) w') : wpList Tryz.prog ops Q (o :: rest) a w := by
  obtain ⟨D, h1, h2⟩ := h
  exact wpList_delete_own w hg m x 65 3 hop 4 keyedInt Tryz.underlying65 (plainElem Tryz.prog 4) b n D hm h1 _ _ hx (keyOf_int_mk Tryz.underlying3 hw)
    fun w' r1 r2 => hK w' ⟨_, r1, h2.del p⟩ r2.grown
end
end Go.Proofs.YtdblhmpcilihnaaGreat
