/- How the kinds' data read in the engine's values, and how a contract of the engine's becomes a law's walk. No data of the program's own here. -/
import Derived.Test.YtdblhmpcilihnaaGreatEngB
import Derived.Test.YtdblhmpcilihnaaGreatMem
namespace Go.Proofs.YtdblhmpcilihnaaGreat
open Go.RowKit E
set_option linter.unusedVariables false
set_option linter.unusedSimpArgs false

def FRow (F : Nat → Prop) (w : World) (l : List FV) (cs : List Value) : Prop := l.length = cs.length ∧ ∀ (j : Nat) a u, l[j]? = some a → cs[j]? = some u → FRel F w a u
theorem FRow.append {F : Nat → Prop} {w : World} {l l' : List FV} {cs cs' : List Value} (h : FRow F w l cs) (h' : FRow F w l' cs') : FRow F w (l ++ l') (cs ++ cs') := by
  refine ⟨by simp [h.1, h'.1], fun j a u ha hu => ?_⟩
  rw [List.getElem?_append] at ha hu
  have e := h.1
  by_cases c : j < l.length
  · rw [if_pos c] at ha; rw [if_pos (by omega)] at hu; exact h.2 j a u ha hu
  · rw [if_neg c] at ha; rw [if_neg (by omega), ← e] at hu; exact h'.2 _ a u ha hu
theorem FRow.one {F : Nat → Prop} {w : World} {a : FV} {u : Value} (h : FRel F w a u) : FRow F w [a] [u] :=
  ⟨rfl, fun j x y hx hy => by cases j with | zero => simp at hx hy; subst hx hy; exact h | succ j => simp at hx⟩

/-- A kind's data as cells of the engine. -/
structure Enc {α : Type} (d : Kn α) (fv : α → List FV) : Prop where
  len : ∀ x, (fv x).length = d.sz
  rel : ∀ {w : World} {x : α} {cs : List Value}, d.K w x cs → FRow (fun b => b < w.heap.size) w (fv x) cs
namespace Enc
theorem int (k : IntKind) : Enc (Kn.int k) (fun n => [.val (.int k n)]) := ⟨fun _ => rfl, by rintro w x _ rfl; exact .one (.val _)⟩
theorem bool : Enc Kn.bool (fun n => [.val (.bool n)]) := ⟨fun _ => rfl, by rintro w x _ rfl; exact .one (.val _)⟩
theorem str : Enc Kn.str (fun n => [.val (.string n)]) := ⟨fun _ => rfl, by rintro w x _ rfl; exact .one (.val _)⟩
theorem pair {α β : Type} {a : Kn α} {b : Kn β} {f : α → List FV} {g : β → List FV} (h : Enc a f) (k : Enc b g) : Enc (a.pair b) (fun x => f x.1 ++ g x.2) :=
  ⟨fun x => by rw [List.length_append, h.len, k.len]; rfl, by rintro w x cs ⟨c0, c1, rfl, h0, h1⟩; exact (h.rel h0).append (k.rel h1)⟩
theorem iso {α β : Type} {d : Kn α} {f : α → List FV} (h : Enc d f) (g : β → α) : Enc (d.iso g) (fun x => f (g x)) := ⟨fun x => h.len _, fun h' => h.rel h'⟩
theorem sl {α : Type} [Inhabited α] {d : Kn α} {f : α → List FV} (h : Enc d f) (hz : 0 < d.sz) {w : World} {A : Option Addr} {c : Nat} {xs : List α} (hl : xs.length ≤ c ∧ c ≤ maxLen) (hs : Kn.Sl d w A xs) :
    FRel (fun b => b < w.heap.size) w (.sl d.sz xs.length fun i => f (xs.getD i default)) (.slice A xs.length c) := by
  have key : ∀ i, i < xs.length → ∃ b off cc, A = some ⟨b, off, none⟩ ∧ b < w.heap.size ∧ d.K w (xs.getD i default) cc ∧ ∀ (j : Nat) (u : Value), cc[j]? = some u → w.cell? ⟨b, off + (i * d.sz + j), none⟩ = some u := fun i hi =>
    hs.at_ hz (by simp [List.getD_eq_getElem?_getD, hi])
  obtain ⟨b, off, hb⟩ : ∃ b off, 0 < xs.length → A = some ⟨b, off, none⟩ ∧ b < w.heap.size := by
    by_cases c0 : 0 < xs.length
    · obtain ⟨b, off, _, e, hb, _⟩ := key 0 c0; exact ⟨b, off, fun _ => ⟨e, hb⟩⟩
    · exact ⟨0, 0, fun h => absurd h c0⟩
  have key2 : ∀ i, i < xs.length → ∃ cc, d.K w (xs.getD i default) cc ∧ ∀ (j : Nat) (u : Value), cc[j]? = some u → w.cell? ⟨b, off + (i * d.sz + j), none⟩ = some u := fun i hi => by
    obtain ⟨b', off', cc, e, _, h1, h2⟩ := key i hi
    have e2 := (hb (by omega)).1
    rw [e] at e2; cases e2
    exact ⟨cc, h1, h2⟩
  refine .sl _ _ _ A c (fun i j => (w.cell? ⟨b, off + (i * d.sz + j), none⟩).getD undef) b off hl hb (fun i _ => h.len _) (fun i j hi hj => ?_) (fun i j x hi hx => ?_)
  · obtain ⟨cc, h1, h2⟩ := key2 i hi
    have hlen := d.len h1
    rw [h2 j cc[j] (by simp [hlen, hj])]; rfl
  · obtain ⟨cc, h1, h2⟩ := key2 i hi
    have hlen := d.len h1
    have hj : j < cc.length := by have := (List.getElem?_eq_some_iff.1 hx).1; rw [h.len] at this; omega
    rw [h2 j cc[j] (by simp [hj])]
    exact (h.rel h1).2 j x _ hx (by simp [hj])
theorem slice {α : Type} [Inhabited α] {d : Kn α} {f : α → List FV} (h : Enc d f) (hz : 0 < d.sz) : Enc (Kn.slice d) (fun xs => [.sl d.sz xs.length fun i => f (xs.getD i default)]) :=
  ⟨fun _ => rfl, by rintro w xs _ ⟨A, c, rfl, hl, hs⟩; exact .one (h.sl hz hl hs)⟩
theorem ar {α : Type} {d : Kn α} {f : α → List FV} (h : Enc d f) {w : World} {x : α} {cs : Array Value} (hk : d.K w x cs.toList) : AR (fun id => id < 0) (fun _ => none) (fun b => b < w.heap.size) w (.agg ((f x).map FV.up)) (.agg cs) := by
  obtain ⟨h1, h2⟩ := h.rel hk
  refine .agg _ _ (by simpa using h1.symm) fun i y hy => ?_
  rw [List.getElem?_map] at hy
  obtain ⟨a, ha, rfl⟩ := Option.map_eq_some_iff.1 hy
  have hi := (List.getElem?_eq_some_iff.1 ha).1
  have hi' : i < cs.size := by simpa [h1] using hi
  have := h2 i a cs[i] ha (by simp [hi'])
  have e : cs.getD i undef = cs[i] := by simp [Array.getD_eq_getD_getElem?, hi']
  rw [e]
  generalize cs[i] = v at this
  cases this with
  | val v => exact .val _
  | sl sz n f A c u b off h1 h2 h3 h4 h5 => exact .sl _ _ _ _ (.sl sz n f A c u b off h1 h2 h3 h4 h5)
theorem ars {α : Type} [Inhabited α] {d : Kn α} {f : α → List FV} (h : Enc d f) (hz : 0 < d.sz) {w : World} {xs : List α} {A : Option Addr} {c : Nat} (hk : (Kn.slice d).K w xs [.slice A xs.length c]) :
    AR (fun id => id < 0) (fun _ => none) (fun b => b < w.heap.size) w (.sl d.sz xs.length fun i => f (xs.getD i default)) (.slice A xs.length c) := by
  obtain ⟨A', c', e, hl, hs⟩ := hk
  simp at e; obtain ⟨rfl, rfl⟩ := e
  exact .sl _ _ _ _ (h.sl hz hl hs)
end Enc
theorem ars_nil {w : World} : Rs 0 (fun _ => none) (fun b => b < w.heap.size) w [] #[] := ⟨rfl, fun i x hx => by simp at hx⟩
theorem ars_cons {w : World} {x : AV} {v : Value} {l : List AV} {vs : List Value} (h : AR (fun id => id < 0) (fun _ => none) (fun b => b < w.heap.size) w x v) (h' : Rs 0 (fun _ => none) (fun b => b < w.heap.size) w l vs.toArray) :
    Rs 0 (fun _ => none) (fun b => b < w.heap.size) w (x :: l) (v :: vs).toArray := by
  refine ⟨by simpa using h'.1, fun i y hy => ?_⟩
  cases i with
  | zero => simp at hy; subst hy; exact h
  | succ i => simpa [Array.getD_eq_getD_getElem?] using h'.2 i y (by simpa using hy)
theorem ar_pair {w : World} {a b : Value} : AR (fun id => id < 0) (fun _ => none) (fun b => b < w.heap.size) w (.agg [.val a, .val b]) (.agg #[a, b]) :=
  .agg _ _ rfl fun i x hx => by
    match i, hx with
    | 0, hx => simp at hx; subst hx; exact .val _
    | 1, hx => simp at hx; subst hx; exact .val _
/-- A law that the engine proved true is a law's walk. -/
theorem law_of_pure {P : Program} {g : FuncId} {args : List AV} {vs : Array Value} {w : World} (h : Pure P g args (.val (.bool true))) (hr : Rs 0 (fun _ => none) (fun b => b < w.heap.size) w args vs) :
    Calls P g vs w fun e w' => e = .returned (.bool true) ∧ Below w.heap.size w w' := by
  have hno : ∀ b, ¬ Live (fun _ => none) ⟨0, []⟩ b := fun b ⟨id, blk, o, hg, _⟩ => by simp [Hp.get, E.blkOf_nil, E.blkOf_cons] at hg
  refine (h.run.run (fun _ => none) (fun b => b < w.heap.size) w vs ⟨fun id blk hg => by simp [Hp.get, E.blkOf_nil, E.blkOf_cons] at hg, fun id id' blk blk' b o o' hg => by simp [Hp.get, E.blkOf_nil, E.blkOf_cons] at hg, fun _ h => h⟩ hr).mono ?_
  rintro e w' ⟨v, rfl, x, σ', F', H', rfl, hx, hw', hr'⟩
  cases hr'
  exact ⟨rfl, hx.os, hx.tape, hx.out, hx.heap, fun k hk => hx.same k hk (hno k)⟩
end Go.Proofs.YtdblhmpcilihnaaGreat
