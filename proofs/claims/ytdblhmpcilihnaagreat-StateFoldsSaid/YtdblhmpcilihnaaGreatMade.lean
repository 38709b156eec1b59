/- Data that a call made: it is of a kind in every world that agrees on the blocks from a base on (but for one row, which is being appended to); rows that grow; append from any source. No program here. -/
import Derived.Test.YtdblhmpcilihnaaGreatMem
import Derived.Maps.AppendAt
import Derived.Deep.AppendLies
import Derived.Deep.Draws
import Derived.OwnWalk
set_option linter.unusedVariables false
namespace Go.Proofs.YtdblhmpcilihnaaGreat
open Go.RowKit
/-- The blocks from base on, but one, are as they were. -/
def Agree (w W : World) (base : Nat) (g : Option Nat) : Prop := w.heap.size ≤ W.heap.size ∧ ∀ k, base ≤ k → k < w.heap.size → some k ≠ g → W.heap[k]? = w.heap[k]?
theorem Agree.refl (w : World) (base : Nat) (g : Option Nat) : Agree w w base g := ⟨Nat.le_refl _, fun _ _ _ _ => rfl⟩
def MadeC {α : Type} (d : Kn α) (w : World) (base : Nat) (g : Option Nat) (xs : List α) (cs : List Value) : Prop := ∀ W, Agree w W base g → Kn.Cells d W xs cs
def Made {α : Type} (d : Kn α) (w : World) (base : Nat) (x : α) (cs : List Value) : Prop := ∀ W, Agree w W base none → d.K W x cs
section
variable {α : Type} {d : Kn α} {w w1 : World} {base : Nat} {x : α} {cs : List Value} {xs ys : List α} {ds : List Value} {g g1 : Option Nat}
theorem Made.K (h : Made d w base x cs) : d.K w x cs := h w (Agree.refl _ _ _)
/-- To a later world: what it needs is as it was. -/
theorem MadeC.move (h : MadeC d w base g xs cs) (hs : w.heap.size ≤ w1.heap.size) (hm : ∀ k, base ≤ k → k < w.heap.size → some k ≠ g → w1.heap[k]? = w.heap[k]? ∧ some k ≠ g1) : MadeC d w1 base g1 xs cs :=
  fun W hW => h W ⟨Nat.le_trans hs hW.1, fun k h1 h2 h3 => (hW.2 k h1 (Nat.lt_of_lt_of_le h2 hs) (hm k h1 h2 h3).2).trans (hm k h1 h2 h3).1⟩
theorem Made.move (h : Made d w base x cs) (hs : w.heap.size ≤ w1.heap.size) (hm : ∀ k, base ≤ k → k < w.heap.size → w1.heap[k]? = w.heap[k]?) : Made d w1 base x cs :=
  fun W hW => h W ⟨Nat.le_trans hs hW.1, fun k h1 h2 h3 => (hW.2 k h1 (Nat.lt_of_lt_of_le h2 hs) h3).trans (hm k h1 h2)⟩
theorem Made.below (h : Made d w base x cs) (hb : Below w.heap.size w w1) : Made d w1 base x cs := h.move hb.size (fun k _ hk => hb.block k hk)
theorem MadeC.below (h : MadeC d w base g xs cs) (hb : Below w.heap.size w w1) : MadeC d w1 base g xs cs := h.move hb.size (fun k _ hk hn => ⟨hb.block k hk, hn⟩)
theorem Made.lower {base' : Nat} (h : Made d w base x cs) (hb : base' ≤ base) : Made d w base' x cs := fun W hW => h W ⟨hW.1, fun k h1 => hW.2 k (Nat.le_trans hb h1)⟩
theorem MadeC.nil : MadeC d w base g [] [] := fun _ _ => rfl
theorem MadeC.append (h : MadeC d w base g xs cs) (h' : MadeC d w base g ys ds) : MadeC d w base g (xs ++ ys) (cs ++ ds) := fun W hW => (h W hW).append (h' W hW)
theorem Made.single (h : Made d w base x cs) : MadeC d w base none [x] cs := fun W hW => Kn.Cells.single (h W hW)
/-- Of kinds without memory (numbers, bools, strings, structs of these) all is made. -/
def Flat (d : Kn α) : Prop := ∀ w W x cs, d.K w x cs → d.K W x cs
theorem Flat.cells (hf : Flat d) {W : World} (h : Kn.Cells d w xs cs) : Kn.Cells d W xs cs := by
  induction xs generalizing cs with
  | nil => exact h
  | cons y xs ih => obtain ⟨c0, c1, rfl, h0, h1⟩ := h; exact ⟨c0, c1, rfl, hf _ _ _ _ h0, ih h1⟩
theorem Flat.made (hf : Flat d) (h : Kn.Cells d w xs cs) (w1 : World) : MadeC d w1 base g xs cs := fun _ _ => hf.cells h
theorem flat_int (k : IntKind) : Flat (Kn.int k) := fun _ _ _ _ h => h
/-- A row of the call's own whose elements are made: a slice that is made. -/
theorem made_slice {e : TypeId} {v : Value} {n : Nat} (hn : n = xs.length) (hown : w.ownsRow base e d.sz v n cs) (hz : 0 < d.sz) (hm : MadeC d w base v.ownBlock xs cs) :
    ∃ A c, v = .slice A xs.length c ∧ (xs.length ≤ c ∧ c ≤ maxLen) ∧ Made (Kn.slice d) w base xs [v] := by
  subst hn
  rcases hown.2 with ⟨rfl, h0⟩ | ⟨b, cap, cur, rfl, hb, hg, hnc, hcm, hsz, hcur⟩
  · have hx : xs = [] := List.eq_nil_of_length_eq_zero h0
    subst hx
    exact ⟨none, 0, rfl, ⟨Nat.le_refl _, Nat.zero_le _⟩, fun W _ => ⟨none, 0, rfl, ⟨Nat.le_refl _, Nat.zero_le _⟩, Kn.Sl.nil _ _ _⟩⟩
  · have hlt : b < w.heap.size := (Array.getElem?_eq_some_iff.1 hg).1
    refine ⟨_, cap, rfl, ⟨hnc, hcm⟩, fun W hW => ⟨_, cap, rfl, ⟨hnc, hcm⟩, cs, hm W ⟨hW.1, fun k h1 h2 _ => hW.2 k h1 h2 (by simp)⟩, ?_⟩⟩
    intro hl
    refine ⟨b, 0, rfl, Nat.lt_of_lt_of_le hlt hW.1, fun j u hu => ?_⟩
    have hcell := hW.2 b hb hlt (by simp)
    have hj : j < cs.length := (List.getElem?_eq_some_iff.1 hu).1
    rw [Nat.zero_add, World.cell?_of_block (w := w) hcell]
    have hc := hown.cellAt (j := j) (by rw [← hown.1]; exact hj)
    rw [hc, hu]
/-- The old elements and the new one, behind an append. -/
theorem MadeC.push {v v' : Value} {w2 : World} {e : TypeId} {n m : Nat} {b1 : Nat} {cs0 : List Value} (h : MadeC d w base v.ownBlock xs cs) (hv : ∀ k, v.ownBlock = some k → k < b1) (hb1 : w.heap.size ≤ b1)
    (hB : Below w.heap.size w w1) (hx : MadeC d w1 b1 none ys ds) (hbase : base ≤ b1)
    (hg : w1.grownBy w2 v.ownBlock) (hloc : v'.ownBlock = v.ownBlock ∨ v'.ownBlock = some w1.heap.size) (hb2 : b1 ≤ w1.heap.size) : MadeC d w2 base v'.ownBlock (xs ++ ys) (cs ++ ds) := by
  refine MadeC.append (h.move (Nat.le_trans hB.size hg.size) fun k h1 h2 h3 => ⟨(hg.block k (Nat.lt_of_lt_of_le h2 hB.size) h3).trans (hB.block k h2), ?_⟩) ?_
  · rcases hloc with e | e <;> rw [e]
    · exact h3
    · intro hk; injection hk with hk; have := hB.size; omega
  · intro W hW
    refine hx W ⟨Nat.le_trans hg.size hW.1, fun k h1 h2 _ => ?_⟩
    have hne : some k ≠ v.ownBlock := fun e => by have := hv k e.symm; omega
    have hne' : some k ≠ v'.ownBlock := by
      rcases hloc with e | e <;> rw [e]
      · exact hne
      · intro hk; injection hk with hk; omega
    exact (hW.2 k (Nat.le_trans hbase h1) (Nat.lt_of_lt_of_le h2 hg.size) hne').trans (hg.block k h2 hne)
end
/-- append onto a row of the call's own from a row that is read, nil and empty ones too. -/
theorem run_append_row {P : Program} (w : World) (base : Nat) (t ty e : TypeId) (i : TypeInfo) (z : Value) (size bytes : Nat) (ht : P.underlying t = some (.slice e)) (hi : P.info? e = some i) (hz : i.zero = some z)
    (hsize : i.size = size) (hby : i.bytes = bytes) (hzs : z.cells.size = size) (hsz : 0 < size) (v : Value) (n : Nat) (xs : List Value) (hown : w.ownsRow base e size v n xs)
    (A : Option Addr) (m c : Nat) (news : List Value) (hr : Row w A news) (hl : news.length = m * size) (h1 : ∀ u ∈ news, u.oneCell' = true)
    (h63 : n + m ≤ maxLen) (hbytes : (n + m) * bytes ≤ 140737488355328) (hbase : base ≤ w.heap.size) :
    ∃ v' w', (Builtin.append_ #[t, t] ty #[v, .slice A m c]).run P w = .ok v' w' ∧ w'.ownsRow base e size v' (n + m) (xs ++ news) ∧ w.grownBy w' v.ownBlock ∧ (v'.ownBlock = v.ownBlock ∨ v'.ownBlock = some w.heap.size) := by
  rcases Nat.eq_zero_or_pos m with h0 | h0
  · subst h0
    have hn : news = [] := List.eq_nil_of_length_eq_zero (by simpa using hl)
    subst hn
    rcases A with _ | ad
    · refine ⟨v, w, ?_, by simpa using hown, World.grownBy.refl w _, .inl rfl⟩
      rcases hown.2 with ⟨rfl, rfl⟩ | ⟨g, cap, cur, rfl, _, _, hnc, _⟩
      · simp [Builtin.append_, run_underlying ht, sizeOf, typeInfo, hi, Builtin.lenOf, Builtin.firstCells]
      · simp [Builtin.append_, run_underlying ht, sizeOf, typeInfo, hi, Builtin.lenOf, Builtin.firstCells, hnc, storeCells]
    · obtain ⟨v', w', hrun, h2, h3, _, h5⟩ := run_append_own_at (P := P) w base t ty e i z size bytes ht hi hz hsize hby hzs hsz v n xs hown ad 0 c [] (by simp) (by simp) (by simp) h63 hbytes hbase
      exact ⟨v', w', hrun, h2, h3, h5⟩
  · have hp : 0 < news.length := by rw [hl]; exact Nat.mul_pos h0 hsz
    obtain ⟨b, off, rfl, _, hc⟩ := hr hp
    obtain ⟨v', w', hrun, h2, h3, _, h5⟩ := run_append_own_at (P := P) w base t ty e i z size bytes ht hi hz hsize hby hzs hsz v n xs hown ⟨b, off, none⟩ m c news hl
      (fun j u hu => by rw [Go.WideShapes.add_plain]; exact hc j u hu) h1 h63 hbytes hbase
    exact ⟨v', w', hrun, h2, h3, h5⟩
theorem wpList_append_row {P : Program} (w : World) {ops : Array Oper} {rest : List Oper} {o : Oper} {a : Act} {Q : Exit → Act → World → Prop} (hgd : o.guard = none) (s x : Operand) (t : TypeId)
    (ho : o.op = .call { callee := .builtin .append, args := #[s, x], argTypes := #[t, t] })
    (base : Nat) (e : TypeId) (i : TypeInfo) (z : Value) (size bytes : Nat) (ht : P.underlying t = some (.slice e)) (hi : P.info? e = some i) (hz : i.zero = some z)
    (hsize : i.size = size) (hby : i.bytes = bytes) (hzs : z.cells.size = size) (hsz : 0 < size)
    (v : Value) (n : Nat) (xs : List Value) (hs : a.eval s = v) (hown : w.ownsRow base e size v n xs)
    (A : Option Addr) (m c : Nat) (news : List Value) (hx : a.eval x = .slice A m c) (hr : Row w A news) (hl : news.length = m * size) (h1 : ∀ u ∈ news, u.oneCell' = true)
    (h63 : n + m ≤ maxLen) (hbytes : (n + m) * bytes ≤ 140737488355328) (hbase : base ≤ w.heap.size)
    (h : ∀ v' w', w'.ownsRow base e size v' (n + m) (xs ++ news) → w.grownBy w' v.ownBlock → (v'.ownBlock = v.ownBlock ∨ v'.ownBlock = some w.heap.size) → wpList P ops Q rest (a.put o.dst v') w') : wpList P ops Q (o :: rest) a w := by
  refine wpList_plain hgd fun K hK => ?_
  obtain ⟨v', w', hrun, h2, h3, h4⟩ := run_append_row (P := P) w base t o.type e i z size bytes ht hi hz hsize hby hzs hsz v n xs hown A m c news hr hl h1 h63 hbytes hbase
  unfold Oper.wp execOp
  simp only [ho, resolve, invoke, builtin, Sem.run_bind, Sem.run_pure, Result.andThen_ok, List.map_toArray, List.map_cons, List.map_nil, hs, hx, hrun]
  exact hK _ _ (h v' w' h2 h3 h4)
end Go.Proofs.YtdblhmpcilihnaaGreat
