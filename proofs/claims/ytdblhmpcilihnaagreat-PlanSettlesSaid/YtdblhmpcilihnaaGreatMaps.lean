/- Maps with keys of an integer kind, read as a list of keys and values: look-up and store as laws of the walk. No program here. -/
import Derived.MapKept
import Derived.Maps.Own
import Derived.WalkKit
import Derived.Deep.Draws
namespace Go.Proofs.YtdblhmpcilihnaaGreat
open Go.RowKit
/-- Block b is a map with these keys and values, in the order in which they came. -/
def MapAt (w : World) (b : Nat) (k : IntKind) (l : List (Int × Value)) : Prop :=
  ∃ es clock, w.heap[b]? = some (.map es clock) ∧ es.toList.map (fun e => (e.key, e.val)) = l.map (fun p => (Value.int k p.1, p.2))
theorem MapAt.new (w : World) (k : IntKind) : MapAt (w.alloc (.map #[] 0)) w.heap.size k [] := ⟨#[], 0, heap_alloc_new w _, rfl⟩
theorem MapAt.newAt (w : World) (k : IntKind) (n : Nat) (h : n = w.heap.size) : MapAt (w.alloc (.map #[] 0)) n k [] := by subst h; exact MapAt.new w k
theorem MapAt.lt {w : World} {b : Nat} {k : IntKind} {l : List (Int × Value)} (h : MapAt w b k l) : b < w.heap.size := by
  obtain ⟨es, clock, hb, _⟩ := h; exact lt_of_block hb
theorem MapAt.of_block {w w' : World} {b : Nat} {k : IntKind} {l : List (Int × Value)} (h : MapAt w b k l) (hb : w'.heap[b]? = w.heap[b]?) : MapAt w' b k l := by
  obtain ⟨es, clock, h1, h2⟩ := h; exact ⟨es, clock, hb.trans h1, h2⟩
theorem MapAt.below {w w' : World} {b : Nat} {k : IntKind} {l : List (Int × Value)} (h : MapAt w b k l) (hb : Below w.heap.size w w') : MapAt w' b k l := h.of_block (hb.block b h.lt)
theorem MapAt.alloc {w : World} {b : Nat} {k : IntKind} {l : List (Int × Value)} (h : MapAt w b k l) (o : Obj) : MapAt (w.alloc o) b k l := h.of_block (Below.heap_alloc _ _ _ h.lt)
theorem MapAt.drew {w : World} {b : Nat} {k : IntKind} {l : List (Int × Value)} (h : MapAt w b k l) : MapAt w.drew b k l := h
theorem MapAt.drewN {w : World} {b : Nat} {k : IntKind} {l : List (Int × Value)} (h : MapAt w b k l) (n : Nat) : MapAt (w.drewN n) b k l := h

theorem findNow_list (k : IntKind) (a : Int) : ∀ (es : List MapEntry) (l : List (Int × Value)) (i : Nat), es.map (fun e => (e.key, e.val)) = l.map (fun p => (Value.int k p.1, p.2)) →
    (l.lookup a = none ∧ Instr.findNow (.int k) (.int k a) es i = some none) ∨ ∃ j v, l.lookup a = some v ∧ Instr.findNow (.int k) (.int k a) es i = some (some (i + j, v)) ∧ (l[j]?).map (·.1) = some a ∧ (es[j]?).map (·.key) = some (.int k a) ∧ ∀ m, m < j → (l[m]?).map (·.1) ≠ some a
  | [], l, i, h => by
    cases l with
    | nil => exact .inl ⟨rfl, rfl⟩
    | cons p l => simp at h
  | e :: es, l, i, h => by
    cases l with
    | nil => simp at h
    | cons p l =>
      simp only [List.map_cons, List.cons.injEq, Prod.mk.injEq] at h
      obtain ⟨⟨hk, hv⟩, ht⟩ := h
      obtain ⟨pk, pv⟩ := p
      simp only at hk hv
      by_cases hp : a = pk
      · subst hp
        refine .inr ⟨0, pv, by simp [List.lookup], ?_, rfl, by simp [hk], fun m hm => absurd hm (by omega)⟩
        simp [Instr.findNow, hk, hv, Instr.sameNow]
      · have hne : (a == pk) = false := by simpa using hp
        rcases findNow_list k a es l (i + 1) ht with ⟨h1, h2⟩ | ⟨j, v, h1, h2, h3, h4, h5⟩
        · exact .inl ⟨by simp [List.lookup, hne, h1], by simp [Instr.findNow, hk, Instr.sameNow, hne, h2]⟩
        · refine .inr ⟨j + 1, v, by simp [List.lookup, hne, h1], ?_, by simpa using h3, by simpa using h4, ?_⟩
          · simp [Instr.findNow, hk, Instr.sameNow, hne, h2]; omega
          · intro m hm
            cases m with
            | zero => simpa using fun e => hp e.symm
            | succ m => simpa using h5 m (by omega)
section
variable {P : Program} {w : World} {b : Nat} {k : IntKind} {l : List (Int × Value)} {t K E : TypeId}
theorem MapAt.look (h : MapAt w b k l) (ht : P.underlying t = some (.map K E)) (hK : P.underlying K = some (.int k)) {z : Value} (hz : (zeroValue E).run P w = .ok z w) (a : Int) (c : Bool) :
    (Instr.lookup t (.map (some b)) (.int k a) c).run P w = .ok (if c then .tuple #[(l.lookup a).getD z, .bool (l.lookup a).isSome] else (l.lookup a).getD z) w := by
  obtain ⟨es, clock, hb, hl⟩ := h
  have hkey : MapKept.IsKey (.int k) (.int k a) := by simp [MapKept.IsKey]
  rcases findNow_list k a es.toList l 0 hl with ⟨h1, h2⟩ | ⟨j, v, h1, h2, _⟩
  · cases c <;> simp [Instr.lookup, run_underlying ht, MapKept.run_getObj_map hb, MapKept.run_checkKey hK hkey, MapKept.run_findKey hK h2, hz, Result.andThen, h1]
  · cases c <;> simp [Instr.lookup, run_underlying ht, MapKept.run_getObj_map hb, MapKept.run_checkKey hK hkey, MapKept.run_findKey hK h2, Result.andThen, h1]
/-- A store at a key that is not there. -/
theorem MapAt.put_new (h : MapAt w b k l) (ht : P.underlying t = some (.map K E)) (hK : P.underlying K = some (.int k)) {a : Int} (v : Value) (ha : l.lookup a = none) :
    ∃ w', (Instr.mapUpdate t (.map (some b)) (.int k a) v).run P w = .ok () w' ∧ MapAt w' b k (l ++ [(a, v)]) ∧ w.grownBy w' (some b) := by
  obtain ⟨es, clock, hb, hl⟩ := h
  have hkey : MapKept.IsKey (.int k) (.int k a) := by simp [MapKept.IsKey]
  rcases findNow_list k a es.toList l 0 hl with ⟨_, h2⟩ | ⟨j, v', h1, _⟩
  · have hs := MapKept.heap_set (o' := .map (es.push { key := .int k a, val := v, born := clock }) (clock + 1)) hb
    refine ⟨{ w with heap := w.heap.setIfInBounds b (.map (es.push { key := .int k a, val := v, born := clock }) (clock + 1)) }, ?_, ⟨_, _, hs.1, by simp [hl]⟩, ⟨rfl, rfl, rfl, by simp, fun i _ hne => hs.2 i (fun e => hne (by rw [e]))⟩⟩
    simp [Instr.mapUpdate, run_underlying ht, MapKept.run_getObj_map hb, MapKept.run_checkKey hK hkey, MapKept.run_findKey hK h2, MapKept.run_setObj_map _ hb, Result.andThen]
  · rw [h1] at ha; cases ha
/-- A store of what is there: the map stays as it is. -/
theorem MapAt.put_same (h : MapAt w b k l) (ht : P.underlying t = some (.map K E)) (hK : P.underlying K = some (.int k)) {a : Int} (v : Value) (ha : l.lookup a = some v) :
    ∃ w', (Instr.mapUpdate t (.map (some b)) (.int k a) v).run P w = .ok () w' ∧ MapAt w' b k l ∧ w.grownBy w' (some b) := by
  obtain ⟨es, clock, hb, hl⟩ := h
  have hkey : MapKept.IsKey (.int k) (.int k a) := by simp [MapKept.IsKey]
  rcases findNow_list k a es.toList l 0 hl with ⟨h1, _⟩ | ⟨j, v', h1, h2, h3, h4, h5⟩
  · rw [h1] at ha; cases ha
  · rw [h1] at ha
    obtain rfl : v' = v := by simpa using ha
    obtain ⟨e, he, hek⟩ := Option.map_eq_some_iff.1 h4
    have hj : j < es.size := by have := (List.getElem?_eq_some_iff.1 he).1; simpa using this
    have he' : es[j]? = some e := by rw [← Array.getElem?_toList]; exact he
    have hlj : (e.key, e.val) = (Value.int k a, v') := by
      have h6 := congrArg (·[j]?) hl
      simp only [List.getElem?_map, he, Option.map_some] at h6
      obtain ⟨p, hp, hpa⟩ := Option.map_eq_some_iff.1 h3
      rw [hp] at h6
      simp only [Option.map_some, Option.some.injEq] at h6
      rw [h6]
      have h7 : l.lookup a = some p.2 := by
        clear h1 h2 h4 he he' hek hj h6 hl
        induction l generalizing j with
        | nil => simp at hp
        | cons q l ih =>
          cases j with
          | zero =>
            simp at hp
            subst hp
            obtain ⟨qk, qv⟩ := q
            simp only at hpa
            subst hpa
            simp [List.lookup]
          | succ j =>
            have h0 := h5 0 (by omega)
            obtain ⟨qk, qv⟩ := q
            have hne : (a == qk) = false := by simpa using fun e : a = qk => h0 (by simp [e])
            simp only [List.lookup, hne]
            exact ih _ (by simpa using h3) (fun m hm => by have := h5 (m + 1) (by omega); simpa using this) (by simpa using hp)
      rw [h1] at h7
      obtain ⟨pk, pv⟩ := p
      simp at h7 hpa
      simp [h7, hpa]
    have hval : e.val = v' := by have := congrArg Prod.snd hlj; simpa using this
    have hs := MapKept.heap_set (o' := .map (es.modify j fun e => { e with key := .int k a, val := v' }) clock) hb
    refine ⟨{ w with heap := w.heap.setIfInBounds b (.map (es.modify j fun e => { e with key := .int k a, val := v' }) clock) }, ?_, ⟨_, _, hs.1, ?_⟩, ⟨rfl, rfl, rfl, by simp, fun i _ hne => hs.2 i (fun e => hne (by rw [e]))⟩⟩
    · simp only [Nat.zero_add] at h2
      simp [Instr.mapUpdate, run_underlying ht, MapKept.run_getObj_map hb, MapKept.run_checkKey hK hkey, MapKept.run_findKey hK h2, he', hek, MapKept.run_keyThatStays hkey, MapKept.run_setObj_map _ hb, Result.andThen]
    · rw [← hl]
      apply List.ext_getElem
      · simp
      · intro i h6 h7
        simp only [List.getElem_map, Array.getElem_toList, Array.getElem_modify]
        split
        · rename_i hij
          subst hij
          have : es[j] = e := by rw [Array.getElem?_eq_getElem hj] at he'; simpa using he'
          rw [this, hek, hval]
        · rfl
theorem wpList_insert_new {ops : Array Oper} {rest : List Oper} {o : Oper} {a : Act} {Q : Exit → Act → World → Prop} (hg : o.guard = none) (m x v : Operand) (hop : o.op = Op.insert t m x v ∨ o.op = Op.mapUpdate t m x v)
    (ht : P.underlying t = some (.map K E)) (hK : P.underlying K = some (.int k)) (hm : a.eval m = .map (some b)) (h : MapAt w b k l) (n : Int) (u : Value) (hx : a.eval x = .int k n) (hv : a.eval v = u) (hn : l.lookup n = none)
    (hK' : ∀ w', MapAt w' b k (l ++ [(n, u)]) → w.grownBy w' (some b) → wpList P ops Q rest (a.put o.dst undef) w') : wpList P ops Q (o :: rest) a w := by
  refine wpList_plain hg fun K' hKK => ?_
  obtain ⟨w', hrun, r1, r2⟩ := h.put_new ht hK u hn
  unfold Oper.wp
  rcases hop with hop | hop
  · simp [execOp, hop, hm, hx, hv, hrun, Result.andThen]
    exact hKK _ _ (hK' w' r1 r2)
  · simp [execOp, hop, hm, hx, hv, hrun, Result.andThen]
    exact hKK _ _ (hK' w' r1 r2)
theorem wpList_insert_same {ops : Array Oper} {rest : List Oper} {o : Oper} {a : Act} {Q : Exit → Act → World → Prop} (hg : o.guard = none) (m x v : Operand) (hop : o.op = Op.insert t m x v ∨ o.op = Op.mapUpdate t m x v)
    (ht : P.underlying t = some (.map K E)) (hK : P.underlying K = some (.int k)) (hm : a.eval m = .map (some b)) (h : MapAt w b k l) (n : Int) (u : Value) (hx : a.eval x = .int k n) (hv : a.eval v = u) (hn : l.lookup n = some u)
    (hK' : ∀ w', MapAt w' b k l → w.grownBy w' (some b) → wpList P ops Q rest (a.put o.dst undef) w') : wpList P ops Q (o :: rest) a w := by
  refine wpList_plain hg fun K' hKK => ?_
  obtain ⟨w', hrun, r1, r2⟩ := h.put_same ht hK u hn
  unfold Oper.wp
  rcases hop with hop | hop
  · simp [execOp, hop, hm, hx, hv, hrun, Result.andThen]
    exact hKK _ _ (hK' w' r1 r2)
  · simp [execOp, hop, hm, hx, hv, hrun, Result.andThen]
    exact hKK _ _ (hK' w' r1 r2)
end
end Go.Proofs.YtdblhmpcilihnaaGreat
