/- More ways to draw the engine's picture anew. -/
import Derived.Test.YtajpldeffhagaaaGreatE1
namespace Go.Proofs.YtajpldeffhagaaaGreat
open Go.RowKit E
set_option linter.unusedVariables false
theorem FrRel.set {N : Nat} {σ : Sg} {F : Nat → Prop} {w : World} {fr : Fr} {tmps : Array Value} (h : FrRel N σ F w fr tmps) {t : Nat} {x : AV} (hx : AR N σ F w x (tmps.getD t undef)) : FrRel N σ F w ((t, x) :: fr) tmps := fun s => by
  rw [look_cons]
  by_cases c : t = s
  · subst c; rw [if_pos rfl]; exact hx
  · rw [if_neg c]; exact h s
/-- An own slice whose room behind its end is not to be used. -/
theorem Wk.exf {n0 : Nat} {fr : Fr} {H : Hp} (t : Nat) {id sz off len cap : Nat} {ex : Bool} (ht : E.look fr t = .hsl id sz off len cap ex) : Wk n0 fr H ((t, .hsl id sz off len len false) :: fr) H := ⟨fun σ F w tmps hn hw hf => ⟨σ, F, Ext.refl hn, hw, FrRel.set hf (by
  have h := hf t
  rw [ht] at h
  generalize tmps.getD t undef = v at h
  cases h with
  | hsl _ _ _ _ _ _ A b o c hs hN hl hc hx hm hA hA0 room => exact .hsl id sz off len len false A b o c hs hN (Nat.le_refl _) (Nat.le_trans hl hc) nofun hm hA hA0 room
  | hnil _ _ _ _ hs hN => exact .hnil id sz off false hs hN)⟩⟩
/-- No slice is an empty slice. -/
theorem Wk.nil {n0 : Nat} {fr : Fr} {H : Hp} (t sz : Nat) (f : Nat → List FV) (ht : E.look fr t = .val (.slice none 0 0)) : Wk n0 fr H ((t, .sl sz 0 f) :: fr) H := ⟨fun σ F w tmps hn hw hf => ⟨σ, F, Ext.refl hn, hw, FrRel.set hf (by
  have h := hf t
  rw [ht] at h
  generalize tmps.getD t undef = v at h
  cases h
  exact .sl _ _ _ _ (.sl _ _ _ none 0 (fun _ _ => undef) 0 0 (by unfold maxLen; omega) (fun h => absurd h (Nat.not_lt_zero _)) (fun i hi => absurd hi (Nat.not_lt_zero _)) (fun i j hi => absurd hi (Nat.not_lt_zero _)) (fun i j y hi => absurd hi (Nat.not_lt_zero _))))⟩⟩
theorem free_map {α : Type} {l : List α} {f : α → List FV} : ∀ row ∈ l.map (fun x => (f x).map FV.up), freeL row = true := fun row h => by
  obtain ⟨x, _, rfl⟩ := List.mem_map.1 h
  exact free_up _
/-- A load out of an own block whose rows are a list. -/
theorem evN_load_own {P : Program} {t : TypeId} {x : Operand} {fr : Fr} {H : Hp} {id sz i j : Nat} {b : E.Blk} {row : List AV} {k : E.Kd} {y : AV} (hx : E.ev fr x = .hptr id sz i j) (hg : H.get id = some b) (hs : Nat.beq sz b.sz = true) (hr : b.rows[i]? = some row) (hk : E.kd P t = some k) (hp : E.partOf row j k = some y) :
    E.evN P (.load t x) fr H = some y := by
  show E.evLoad P t H (E.ev fr x) = some y
  rw [hx]
  simp only [E.evLoad, E.rowOf, hg, hs, cond_true, hr, hk, hp]
theorem injL {ρ : Nat → Nat} {l : List Nat} (h : (l.all fun a => l.all fun b => !(Nat.beq (ρ a) (ρ b)) || Nat.beq a b) = true) : ∀ a ∈ l, ∀ b ∈ l, ρ a = ρ b → a = b := fun a ha b hb e => by
  have h1 := List.all_eq_true.1 (List.all_eq_true.1 h a ha) b hb
  rw [e] at h1
  simp only [Nat.beq_refl, Bool.not_true, Bool.false_or] at h1
  exact Nat.eq_of_beq_eq_true h1
theorem free1 {r : List AV} (h : freeL r = true) : ∀ row ∈ [r], freeL row = true := fun row hr => by rw [List.mem_singleton.1 hr]; exact h
theorem bdN_of_free {n : Nat} : ∀ (d : Nat) (x : AV), freeN d x = true → bdN n d x = true
  | 0, _, h => by cases h
  | d + 1, x, h => by
    cases x <;> first | rfl | (simp only [freeN] at h; cases h; done) | skip
    · simp only [freeN, bdN, List.all_eq_true] at h ⊢; exact fun y hy => bdN_of_free d y (h y hy)
    · simp only [freeN, bdN, List.all_eq_true] at h ⊢; exact fun y hy => bdN_of_free d y (h y hy)
    · simp only [freeN, bdN, Bool.and_eq_true, List.all_eq_true] at h ⊢; exact ⟨fun y hy => bdN_of_free d y (h.1 y hy), fun y hy => bdN_of_free d y (h.2 y hy)⟩
theorem renN_free {ρ : Nat → Nat} : ∀ (d : Nat) (x : AV), freeN d x = true → renN ρ d x = x
  | 0, _, h => by cases h
  | d + 1, x, h => by
    have map_id : ∀ l : List AV, (∀ y ∈ l, freeN d y = true) → l.map (renN ρ d) = l := fun l hl => by
      induction l with
      | nil => rfl
      | cons a l ih => rw [List.map_cons, renN_free d a (hl a (List.mem_cons_self ..)), ih fun y hy => hl y (List.mem_cons_of_mem _ hy)]
    cases x <;> first | rfl | (simp only [freeN] at h; cases h; done) | skip
    · simp only [freeN, List.all_eq_true] at h; simp only [renN]; rw [map_id _ h]
    · simp only [freeN, List.all_eq_true] at h; simp only [renN]; rw [map_id _ h]
    · simp only [freeN, Bool.and_eq_true, List.all_eq_true] at h; simp only [renN]; rw [map_id _ h.1, map_id _ h.2]
theorem renFree {ρ : Nat → Nat} {x : AV} (h : freeN 5 x = true) : renN ρ 5 x = x := renN_free 5 x h
theorem bdL_of_free {n : Nat} {l : List AV} (h : freeL l = true) : bdL n l = true := by
  unfold freeL at h; unfold bdL
  rw [List.all_eq_true] at h ⊢
  exact fun x hx => bdN_of_free 5 x (h x hx)
theorem bd_rows {n : Nat} {rows : List (List AV)} (h : ∀ row ∈ rows, freeL row = true) : ∀ row ∈ rows, bdL n row = true := fun row hr => bdL_of_free (h row hr)
end Go.Proofs.YtajpldeffhagaaaGreat
