/- Kinds: what a value's cells say in a world, kind by kind: numbers, bools, strings, structs, arrays and slices of any of these, to any depth. Read only: it holds as long as no old block is written. And how an argument that reads as data has a kind. No program here. -/
import Derived.Test.YtdblhmpcilihnaaGreatWords
import Derived.Deep.Slices
import Derived.OpenShut
import Derived.ChangeArms
namespace Go.Proofs.YtdblhmpcilihnaaGreat
open Go.RowKit Go.WideShapes Go.ChangeShapes

/-- A row of cells: where it lies, and what it holds. -/
def Row (w : World) (A : Option Addr) (cs : List Value) : Prop :=
  0 < cs.length → ∃ b off, A = some ⟨b, off, none⟩ ∧ b < w.heap.size ∧ ∀ (j : Nat) (u : Value), cs[j]? = some u → w.cell? ⟨b, off + j, none⟩ = some u
/-- The elder blocks are as they were. -/
def Since (w w' : World) : Prop := ∀ k, k < w.heap.size → w'.heap[k]? = w.heap[k]?
theorem Since.refl (w : World) : Since w w := fun _ _ => rfl
theorem Since.of_below {w w' : World} (h : Below w.heap.size w w') : Since w w' := fun k hk => h.block k hk
theorem since_lt {w w' : World} (h : Since w w') {k : Nat} (hk : k < w.heap.size) : k < w'.heap.size := by
  have e := h k hk
  rcases Nat.lt_or_ge k w'.heap.size with h' | h'
  · exact h'
  · rw [Array.getElem?_eq_none h', Array.getElem?_eq_getElem hk] at e; cases e
theorem Row.since {w w' : World} {A : Option Addr} {cs : List Value} (h : Row w A cs) (hs : Since w w') : Row w' A cs := fun hl => by
  obtain ⟨b, off, rfl, hb, hc⟩ := h hl
  exact ⟨b, off, rfl, since_lt hs hb, fun j u hu => (World.cell?_of_block (w := w) (hs b hb)).trans (hc j u hu)⟩
theorem Row.nil (w : World) (A : Option Addr) : Row w A [] := fun h => by simp at h

/-- A kind of values: how many cells, and what they say. -/
structure Kn (α : Type) where
  sz : Nat
  K : World → α → List Value → Prop
  Wf : α → Prop
  len : ∀ {w x cs}, K w x cs → cs.length = sz
  one : ∀ {w x cs}, K w x cs → ∀ u ∈ cs, u.oneCell' = true
  since : ∀ {w w' x cs}, Since w w' → K w x cs → K w' x cs

namespace Kn
def int (k : IntKind) : Kn Int where
  sz := 1
  K := fun _ n cs => cs = [.int k n]
  Wf := fun n => (Lit.int k n).wf = true
  len := by rintro _ _ _ rfl; rfl
  one := by rintro _ _ _ rfl u hu; rw [List.mem_singleton.1 hu]; rfl
  since := fun _ h => h
def bool : Kn Bool where
  sz := 1
  K := fun _ b cs => cs = [.bool b]
  Wf := fun _ => True
  len := by rintro _ _ _ rfl; rfl
  one := by rintro _ _ _ rfl u hu; rw [List.mem_singleton.1 hu]; rfl
  since := fun _ h => h
def str : Kn ByteArray where
  sz := 1
  K := fun _ s cs => cs = [.string s]
  Wf := fun s => s.size ≤ maxLen
  len := by rintro _ _ _ rfl; rfl
  one := by rintro _ _ _ rfl u hu; rw [List.mem_singleton.1 hu]; rfl
  since := fun _ h => h
/-- Two in line. -/
def pair {α β : Type} (a : Kn α) (b : Kn β) : Kn (α × β) where
  sz := a.sz + b.sz
  K := fun w x cs => ∃ c0 c1, cs = c0 ++ c1 ∧ a.K w x.1 c0 ∧ b.K w x.2 c1
  Wf := fun x => a.Wf x.1 ∧ b.Wf x.2
  len := by rintro w x cs ⟨c0, c1, rfl, h0, h1⟩; rw [List.length_append, a.len h0, b.len h1]
  one := by
    rintro w x cs ⟨c0, c1, rfl, h0, h1⟩ u hu
    rcases List.mem_append.1 hu with hu | hu
    · exact a.one h0 u hu
    · exact b.one h1 u hu
  since := by rintro w w' x cs hs ⟨c0, c1, rfl, h0, h1⟩; exact ⟨c0, c1, rfl, a.since hs h0, b.since hs h1⟩
/-- A Lean structure by its fields. -/
def iso {α β : Type} (d : Kn α) (f : β → α) : Kn β where
  sz := d.sz
  K := fun w x cs => d.K w (f x) cs
  Wf := fun x => d.Wf (f x)
  len := d.len
  one := d.one
  since := d.since
/-- The cells of a list of elements, laid end to end. -/
def Cells {α : Type} (d : Kn α) (w : World) : List α → List Value → Prop
  | [], cs => cs = []
  | x :: xs, cs => ∃ c0 c1, cs = c0 ++ c1 ∧ d.K w x c0 ∧ Cells d w xs c1
section
variable {α : Type} {d : Kn α} {w w' : World}
theorem Cells.len {xs : List α} {cs : List Value} (h : Cells d w xs cs) : cs.length = xs.length * d.sz := by
  induction xs generalizing cs with
  | nil => rw [h]; simp
  | cons x xs ih => obtain ⟨c0, c1, rfl, h0, h1⟩ := h; rw [List.length_append, d.len h0, ih h1, List.length_cons, Nat.add_mul, Nat.one_mul, Nat.add_comm]
theorem Cells.one {xs : List α} {cs : List Value} (h : Cells d w xs cs) : ∀ u ∈ cs, u.oneCell' = true := by
  induction xs generalizing cs with
  | nil => rw [h]; simp
  | cons x xs ih =>
    obtain ⟨c0, c1, rfl, h0, h1⟩ := h
    intro u hu
    rcases List.mem_append.1 hu with hu | hu
    · exact d.one h0 u hu
    · exact ih h1 u hu
theorem Cells.since {xs : List α} {cs : List Value} (h : Cells d w xs cs) (hs : Since w w') : Cells d w' xs cs := by
  induction xs generalizing cs with
  | nil => exact h
  | cons x xs ih => obtain ⟨c0, c1, rfl, h0, h1⟩ := h; exact ⟨c0, c1, rfl, d.since hs h0, ih h1⟩
theorem Cells.append {xs ys : List α} {cs ds : List Value} (h : Cells d w xs cs) (h' : Cells d w ys ds) : Cells d w (xs ++ ys) (cs ++ ds) := by
  induction xs generalizing cs with
  | nil => obtain rfl : cs = [] := h; simpa using h'
  | cons x xs ih => obtain ⟨c0, c1, rfl, h0, h1⟩ := h; exact ⟨c0, c1 ++ ds, by simp, h0, ih h1⟩
theorem Cells.single {x : α} {cs : List Value} (h : d.K w x cs) : Cells d w [x] cs := ⟨cs, [], by simp, h, rfl⟩
theorem Cells.get {xs : List α} {cs : List Value} (h : Cells d w xs cs) (i : Nat) (x : α) (hx : xs[i]? = some x) : ∃ c, d.K w x c ∧ ∀ (j : Nat) (u : Value), c[j]? = some u → cs[i * d.sz + j]? = some u := by
  induction xs generalizing cs i with
  | nil => simp at hx
  | cons y xs ih =>
    obtain ⟨c0, c1, rfl, h0, h1⟩ := h
    cases i with
    | zero =>
      simp at hx; subst hx
      exact ⟨c0, h0, fun j u hu => by
        have hj := (List.getElem?_eq_some_iff.1 hu).1
        rw [Nat.zero_mul, Nat.zero_add, List.getElem?_append_left hj]; exact hu⟩
    | succ i =>
      obtain ⟨c, hc, hg⟩ := ih h1 i (by simpa using hx)
      exact ⟨c, hc, fun j u hu => by
        have hl := d.len h0
        rw [List.getElem?_append_right (by rw [hl, Nat.add_mul]; omega), hl, ← hg j u hu]
        congr 1
        rw [Nat.add_mul]; omega⟩
end
/-- A slice of elements that is read. -/
def Sl {α : Type} (d : Kn α) (w : World) (A : Option Addr) (xs : List α) : Prop := ∃ cs, Cells d w xs cs ∧ Row w A cs
def slice {α : Type} (d : Kn α) : Kn (List α) where
  sz := 1
  K := fun w xs cs => ∃ A c, cs = [.slice A xs.length c] ∧ (xs.length ≤ c ∧ c ≤ maxLen) ∧ Sl d w A xs
  Wf := fun xs => xs.length ≤ maxLen ∧ ∀ x ∈ xs, d.Wf x
  len := by rintro _ _ _ ⟨A, c, rfl, _⟩; rfl
  one := by rintro _ _ _ ⟨A, c, rfl, _⟩ u hu; rw [List.mem_singleton.1 hu]; rfl
  since := by rintro w w' xs cs hs ⟨A, c, rfl, hl, cs', h1, h2⟩; exact ⟨A, c, rfl, hl, cs', h1.since hs, h2.since hs⟩
section
variable {α : Type} {d : Kn α} {w w' : World} {A : Option Addr} {xs : List α}
theorem Sl.since (h : Sl d w A xs) (hs : Since w w') : Sl d w' A xs := by obtain ⟨cs, h1, h2⟩ := h; exact ⟨cs, h1.since hs, h2.since hs⟩
theorem Sl.below (h : Sl d w A xs) (hb : Below w.heap.size w w') : Sl d w' A xs := h.since (Since.of_below hb)
theorem Sl.nil (d : Kn α) (w : World) (A : Option Addr) : Sl d w A [] := ⟨[], rfl, Row.nil _ _⟩
/-- An element: where its cells lie. -/
theorem Sl.at_ (h : Sl d w A xs) (hz : 0 < d.sz) {i : Nat} {x : α} (hx : xs[i]? = some x) :
    ∃ b off c, A = some ⟨b, off, none⟩ ∧ b < w.heap.size ∧ d.K w x c ∧ ∀ (j : Nat) (u : Value), c[j]? = some u → w.cell? ⟨b, off + (i * d.sz + j), none⟩ = some u := by
  obtain ⟨cs, h1, h2⟩ := h
  obtain ⟨c, hc, hg⟩ := h1.get i x hx
  have hi := (List.getElem?_eq_some_iff.1 hx).1
  have hl : 0 < cs.length := by rw [h1.len]; exact Nat.mul_pos (by omega) hz
  obtain ⟨b, off, rfl, hb, hcell⟩ := h2 hl
  exact ⟨b, off, c, rfl, hb, hc, fun j u hu => hcell _ u (hg j u hu)⟩
end

theorem Sl.ints {k : IntKind} {w : World} {A : Option Addr} {xs : List Int} (h : Sl (int k) w A xs) (hp : 0 < xs.length) :
    ∃ b off, A = some ⟨b, off, none⟩ ∧ b < w.heap.size ∧ ∀ j, j < xs.length → w.cell? ⟨b, off + j, none⟩ = some (.int k (xs.getD j 0)) := by
  obtain ⟨b, off, c, rfl, hb, _, _⟩ := h.at_ Nat.one_pos (List.getElem?_eq_getElem hp)
  refine ⟨b, off, rfl, hb, fun j hj => ?_⟩
  obtain ⟨b', off', c', e, _, hc', hcell⟩ := h.at_ Nat.one_pos (List.getElem?_eq_getElem hj)
  injection e with e
  injection e with e1 e2
  subst e1; subst e2
  obtain rfl : c' = [.int k xs[j]] := hc'
  have := hcell 0 _ rfl
  simp only [Kn.int, Nat.mul_one, Nat.add_zero] at this
  rw [this]
  simp [List.getD, hj]

/-- What reads as data of a type is of a kind. -/
structure Opens {α : Type} (P : Program) (t : TypeId) (d : Kn α) : Prop where
  out : ∀ {H : Type} (enc : TypeId × Value → H) (w : World) (base : Nat) (sp : Nat → Bool) (held : Bool) (fuel : Nat) (cs : List Value) (x : DataW H × List MemPlace),
    DataW.trod enc P w base sp held fuel t cs = some x → ∃ a, d.K w a cs ∧ d.Wf a
section
variable {P : Program} {t e : TypeId}
theorem opens_int {k : IntKind} (ht : P.underlying t = some (.int k)) : Opens P t (int k) := by
  refine ⟨fun enc w base sp held fuel cs x h => ?_⟩
  obtain ⟨n, rfl, _, hw⟩ := DataW.trod_int ht h
  exact ⟨n, rfl, hw⟩
theorem opens_bool (ht : P.underlying t = some .bool) : Opens P t bool := by
  refine ⟨fun enc w base sp held fuel cs x h => ?_⟩
  obtain ⟨b, rfl, _⟩ := DataW.trod_bool ht h
  exact ⟨b, rfl, trivial⟩
theorem opens_str (ht : P.underlying t = some .string) : Opens P t str := by
  refine ⟨fun enc w base sp held fuel cs x h => ?_⟩
  obtain ⟨s, rfl, _, hs⟩ := DataW.trod_string ht h
  exact ⟨s, rfl, hs⟩
theorem opens_iso {α β : Type} {d : Kn α} (h : Opens P t d) (f : β → α) (g : α → β) (hfg : ∀ a, f (g a) = a) : Opens P t (d.iso f) := by
  refine ⟨fun enc w base sp held fuel cs x hx => ?_⟩
  obtain ⟨a, ha, hw⟩ := h.out enc w base sp held fuel cs x hx
  exact ⟨g a, by show d.K w (f (g a)) cs; rw [hfg]; exact ha, by show d.Wf (f (g a)); rw [hfg]; exact hw⟩
theorem cells_lt {w : World} {a : Addr} {v : Value} (h : w.cell? a = some v) : a.block < w.heap.size := block_lt_of_cell h
theorem opens_slice {α : Type} {d : Kn α} (ht : P.underlying t = some (.slice e)) (hsz : P.cellsOf e = d.sz) (he : Opens P e d) : Opens P t d.slice := by
  refine ⟨fun enc w base sp held fuel cs x h => ?_⟩
  rcases Go.Deep.open_slice ht h with ⟨rfl, _⟩ | ⟨a, len, cap, m, n, D, Pl, rfl, _, hl, hm, hmm, _, hi⟩
  · exact ⟨[], ⟨none, 0, rfl, ⟨Nat.le_refl _, Nat.zero_le _⟩, Sl.nil _ _ _⟩, Nat.zero_le _, fun x hx => by cases hx⟩
  · have hlm : len ≤ m := by rw [hmm]; split <;> omega
    have hel : ∀ k, k ≤ len → ∃ (xs : List α) (cs : List Value), xs.length = k ∧ (∀ x ∈ xs, d.Wf x) ∧ Cells d w xs cs ∧ ∀ (j : Nat) (u : Value), cs[j]? = some u → w.cell? (a.add j) = some u := by
      intro k
      induction k with
      | zero => exact fun _ => ⟨[], [], rfl, by simp, rfl, by simp⟩
      | succ k ih =>
        intro hk
        obtain ⟨xs, cs, hxl, hxw, hxc, hxg⟩ := ih (by omega)
        obtain ⟨cs', hc, ht'⟩ := hi k (by omega)
        obtain ⟨x, hx, hw⟩ := he.out enc w base sp held n cs' _ ht'
        obtain ⟨_, hcl, hat⟩ := World.cells?_some hc
        refine ⟨xs ++ [x], cs ++ cs', by simp [hxl], ?_, hxc.append (Cells.single hx), ?_⟩
        · intro y hy
          rcases List.mem_append.1 hy with hy | hy
          · exact hxw y hy
          · rw [List.mem_singleton.1 hy]; exact hw
        · intro j u hu
          have hlen := hxc.len
          rw [hxl] at hlen
          by_cases hj : j < cs.length
          · rw [List.getElem?_append_left hj] at hu
            exact hxg j u hu
          · rw [List.getElem?_append_right (by omega)] at hu
            have hj' := (List.getElem?_eq_some_iff.1 hu).1
            have h2 := hat (j - cs.length) (by omega)
            rw [hu, Go.Deep.add_add] at h2
            rw [← h2]
            congr 2
            rw [hsz]; omega
    obtain ⟨xs, cs, hxl, hxw, hxc, hxg⟩ := hel len (Nat.le_refl _)
    refine ⟨xs, ⟨some a, cap, by rw [hxl], ⟨by omega, hm⟩, cs, hxc, ?_⟩, by omega, hxw⟩
    intro hpos
    obtain ⟨b, off, spot⟩ := a
    have h0 := hxg 0 cs[0] (List.getElem?_eq_getElem hpos)
    have hspot : spot = none := by simpa [Addr.add] using World.cell?_spot h0
    subst hspot
    exact ⟨b, off, rfl, by have h1 := cells_lt h0; simpa [Addr.add] using h1, fun j u hu => by rw [← Go.WideShapes.add_plain]; exact hxg j u hu⟩
/-- A struct, field by field: the fields that are still to come. -/
structure Flds {α : Type} (P : Program) (fs : List Field) (o : Nat) (d : Kn α) : Prop where
  out : ∀ {H : Type} (enc : TypeId × Value → H) (w : World) (base : Nat) (sp : Nat → Bool) (held : Bool) (fuel : Nat) (cs : List Value), cs.length = o + d.sz →
    (∀ f ∈ fs, ∃ x, DataW.trod enc P w base sp held fuel f.type ((cs.drop f.offset).take (P.cellsOf f.type)) = some x) → ∃ a, d.K w a (cs.drop o) ∧ d.Wf a
theorem flds_one {α : Type} {f : Field} {o : Nat} {d : Kn α} (ho : f.offset = o) (hsz : P.cellsOf f.type = d.sz) (h : Opens P f.type d) : Flds P [f] o d := by
  refine ⟨fun enc w base sp held fuel cs hl hx => ?_⟩
  obtain ⟨x, hx⟩ := hx f List.mem_cons_self
  rw [ho, hsz, List.take_of_length_le (by simp [hl])] at hx
  exact h.out enc w base sp held fuel _ x hx
theorem flds_cons {α β : Type} {f : Field} {fs : List Field} {o : Nat} {d : Kn α} {e : Kn β} (ho : f.offset = o) (hsz : P.cellsOf f.type = d.sz) (h : Opens P f.type d) (hs : Flds P fs (o + d.sz) e) : Flds P (f :: fs) o (d.pair e) := by
    refine ⟨fun enc w base sp held fuel cs hl hx => ?_⟩
    have hl' : cs.length = o + (d.sz + e.sz) := hl
    obtain ⟨x, hx0⟩ := hx f List.mem_cons_self
    rw [ho, hsz] at hx0
    obtain ⟨a, ha, hwa⟩ := h.out enc w base sp held fuel _ x hx0
    obtain ⟨b, hb, hwb⟩ := hs.out enc w base sp held fuel cs (by omega) (fun g hg => hx g (List.mem_cons_of_mem _ hg))
    refine ⟨(a, b), ⟨(cs.drop o).take d.sz, cs.drop (o + d.sz), ?_, ha, hb⟩, hwa, hwb⟩
    rw [← List.drop_drop, List.take_append_drop]
theorem opens_struct {α : Type} {fs : Array Field} {d : Kn α} (ht : P.underlying t = some (.struct fs)) (hsz : P.cellsOf t = d.sz) (h : Flds P fs.toList 0 d) : Opens P t d := by
  refine ⟨fun enc w base sp held fuel cs x hx => ?_⟩
  obtain ⟨xs, n, _, _, hl, hlen, hf⟩ := DataW.trod_struct ht hx
  have := h.out enc w base sp held n cs (by omega) (fun f hf' => by
    obtain ⟨i, hi, he⟩ := List.getElem_of_mem hf'
    have hi' : i < fs.size := by simpa using hi
    have h1 := hf i f (by rw [Array.getElem?_eq_getElem hi']; simpa using he)
    rw [List.getElem?_eq_getElem (by omega)] at h1
    exact ⟨_, h1⟩)
  simpa using this
/-- An array of two. -/
theorem opens_array2 {α : Type} {d : Kn α} (ht : P.underlying t = some (.array 2 e)) (hsz : P.cellsOf e = d.sz) (htz : P.cellsOf t = d.sz + d.sz) (he : Opens P e d) : Opens P t (d.pair d) := by
  refine ⟨fun enc w base sp held fuel cs x hx => ?_⟩
  obtain ⟨xs, n, _, _, hl, hlen, hf⟩ := DataW.trod_array ht hx
  have h0 := hf 0 (by omega)
  have h1 := hf 1 (by omega)
  rw [List.getElem?_eq_getElem (by omega), hsz] at h0 h1
  obtain ⟨a, ha, hwa⟩ := he.out enc w base sp held n _ _ h0
  obtain ⟨b, hb, hwb⟩ := he.out enc w base sp held n _ _ h1
  refine ⟨(a, b), ⟨_, _, ?_, ha, hb⟩, hwa, hwb⟩
  rw [Nat.zero_mul, Nat.one_mul, List.drop_zero, List.take_of_length_le (l := cs.drop d.sz) (by simp; omega), List.take_append_drop]
end
end Kn
end Go.Proofs.YtdblhmpcilihnaaGreat
