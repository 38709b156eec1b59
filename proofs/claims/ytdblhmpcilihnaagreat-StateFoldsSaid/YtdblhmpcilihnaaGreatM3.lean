/- More ways to draw the engine's picture anew. Freezing a block everywhere: slices inside slices. -/
import Derived.Test.YtdblhmpcilihnaaGreatEE
namespace Go.Proofs.YtdblhmpcilihnaaGreat
open Go.RowKit E
set_option maxRecDepth 100000
set_option linter.unusedVariables false
set_option linter.unusedSimpArgs false
theorem FrRel.set {N : Nat} {σ : Sg} {F : Nat → Prop} {w : World} {fr : Fr} {tmps : Array Value} (h : FrRel N σ F w fr tmps) {t : Nat} {x : AV} (hx : AR N σ F w x (tmps.getD t undef)) : FrRel N σ F w ((t, x) :: fr) tmps := fun s => by
  rw [look_cons]
  by_cases c : t = s
  · subst c; rw [if_pos rfl]; exact hx
  · rw [if_neg c]; exact h s
/-- An own slice whose room behind its end is not to be used. -/
theorem Wk.exf {n0 : Nat} {fr : Fr} {H : Hp} (t : Nat) {id sz off len cap : Nat} {ex : Bool} (ht : E.look fr t = .hsl id sz off len cap ex) : Wk n0 fr H ((t, .hsl id sz off len len false) :: fr) H := ⟨fun σ F w tmps hn hw hf => ⟨σ, F, Ext.refl hn, hw, FrRel.set hf (by
  have h := hf t
  rw [ht] at h
  generalize tmps.getD t undef = v at h
  cases h with
  | hsl _ _ _ _ _ _ A b o c hs hN hl hc hx hm hA hA0 room => exact .hsl id sz off len len false A b o c hs hN (Nat.le_refl _) (Nat.le_trans hl hc) nofun hm hA hA0 room
  | hnil _ _ _ _ hs hN => exact .hnil id sz off false hs hN)⟩⟩
/-- No slice is an empty slice. -/
theorem Wk.nil {n0 : Nat} {fr : Fr} {H : Hp} (t sz : Nat) (f : Nat → List FV) (ht : E.look fr t = .val (.slice none 0 0)) : Wk n0 fr H ((t, .sl sz 0 f) :: fr) H := ⟨fun σ F w tmps hn hw hf => ⟨σ, F, Ext.refl hn, hw, FrRel.set hf (by
  have h := hf t
  rw [ht] at h
  generalize tmps.getD t undef = v at h
  cases h
  exact .sl _ _ _ _ (.sl _ _ _ none 0 (fun _ _ => undef) 0 0 (by unfold maxLen; omega) (fun h => absurd h (Nat.not_lt_zero _)) (fun i hi => absurd hi (Nat.not_lt_zero _)) (fun i j hi => absurd hi (Nat.not_lt_zero _)) (fun i j y hi => absurd hi (Nat.not_lt_zero _))))⟩⟩
theorem free_map {α : Type} {l : List α} {f : α → List FV} : ∀ row ∈ l.map (fun x => (f x).map FV.up), freeL row = true := fun row h => by
  obtain ⟨x, _, rfl⟩ := List.mem_map.1 h
  exact free_up _
/-- A load out of an own block whose rows are a list. -/
theorem evN_load_own {P : Program} {t : TypeId} {x : Operand} {fr : Fr} {H : Hp} {id sz i j : Nat} {b : E.Blk} {row : List AV} {k : E.Kd} {y : AV} (hx : E.ev fr x = .hptr id sz i j) (hg : H.get id = some b) (hs : Nat.beq sz b.sz = true) (hr : b.rows[i]? = some row) (hk : E.kd P t = some k) (hp : E.partOf row j k = some y) :
    E.evN P (.load t x) fr H = some y := by
  show E.evLoad P t H (E.ev fr x) = some y
  rw [hx]
  simp only [E.evLoad, E.rowOf, hg, hs, cond_true, hr, hk, hp]
theorem injL {ρ : Nat → Nat} {l : List Nat} (h : (l.all fun a => l.all fun b => !(Nat.beq (ρ a) (ρ b)) || Nat.beq a b) = true) : ∀ a ∈ l, ∀ b ∈ l, ρ a = ρ b → a = b := fun a ha b hb e => by
  have h1 := List.all_eq_true.1 (List.all_eq_true.1 h a ha) b hb
  rw [e] at h1
  simp only [Nat.beq_refl, Bool.not_true, Bool.false_or] at h1
  exact Nat.eq_of_beq_eq_true h1
theorem free1 {r : List AV} (h : freeL r = true) : ∀ row ∈ [r], freeL row = true := fun row hr => by rw [List.mem_singleton.1 hr]; exact h
theorem bdN_of_free {n : Nat} : ∀ (d : Nat) (x : AV), freeN d x = true → bdN n d x = true
  | 0, _, h => by cases h
  | d + 1, x, h => by
    cases x <;> first | rfl | (simp only [freeN] at h; cases h; done) | skip
    · simp only [freeN, bdN, List.all_eq_true] at h ⊢; exact fun y hy => bdN_of_free d y (h y hy)
    · simp only [freeN, bdN, List.all_eq_true] at h ⊢; exact fun y hy => bdN_of_free d y (h y hy)
    · simp only [freeN, bdN, Bool.and_eq_true, List.all_eq_true] at h ⊢; exact ⟨fun y hy => bdN_of_free d y (h.1 y hy), fun y hy => bdN_of_free d y (h.2 y hy)⟩
theorem renN_free {ρ : Nat → Nat} : ∀ (d : Nat) (x : AV), freeN d x = true → renN ρ d x = x
  | 0, _, h => by cases h
  | d + 1, x, h => by
    have map_id : ∀ l : List AV, (∀ y ∈ l, freeN d y = true) → l.map (renN ρ d) = l := fun l hl => by
      induction l with
      | nil => rfl
      | cons a l ih => rw [List.map_cons, renN_free d a (hl a (List.mem_cons_self ..)), ih fun y hy => hl y (List.mem_cons_of_mem _ hy)]
    cases x <;> first | rfl | (simp only [freeN] at h; cases h; done) | skip
    · simp only [freeN, List.all_eq_true] at h; simp only [renN]; rw [map_id _ h]
    · simp only [freeN, List.all_eq_true] at h; simp only [renN]; rw [map_id _ h]
    · simp only [freeN, Bool.and_eq_true, List.all_eq_true] at h; simp only [renN]; rw [map_id _ h.1, map_id _ h.2]
theorem renFree {ρ : Nat → Nat} {x : AV} (h : freeN 5 x = true) : renN ρ 5 x = x := renN_free 5 x h
theorem bdL_of_free {n : Nat} {l : List AV} (h : freeL l = true) : bdL n l = true := by
  unfold freeL at h; unfold bdL
  rw [List.all_eq_true] at h ⊢
  exact fun x hx => bdN_of_free 5 x (h x hx)
theorem bd_rows {n : Nat} {rows : List (List AV)} (h : ∀ row ∈ rows, freeL row = true) : ∀ row ∈ rows, bdL n row = true := fun row hr => bdL_of_free (h row hr)
def Fplus (F : Nat → Prop) (σ : Sg) (id : Nat) : Nat → Prop := fun b => F b ∨ ∃ o, σ id = some (b, o)
theorem AR.fz {σ : Sg} {F : Nat → Prop} {H : Hp} {w : World} {id : Nat} {blk : E.Blk} (hw : WR σ F H w) (hg : H.get id = some blk) : ∀ (d : Nat) (x y : AV) (v : Value), FzR id blk d x y → AR H.next σ F w x v → AR H.next σ (Fplus F σ id) w y v := by
  have lift : ∀ (x : AV) (v : Value), AR H.next σ F w x v → AR H.next σ (Fplus F σ id) w x v := fun x v h =>
    h.mono (fun id hid => ⟨hid, rfl⟩) (fun _ h => .inl h) (fun _ _ => rfl) (fun b cs el z h => ⟨cs, h, rfl⟩)
  intro d
  induction d with
  | zero => intro x y v e h; cases e; exact lift _ _ h
  | succ d ih =>
    intro x y v e h
    unfold FzR at e
    split at e
    · cases h with
      | agg _ vs hl hh => obtain ⟨e1, e2⟩ := FzL_get e; exact .agg _ vs (by omega) fun i b hb => by obtain ⟨a, ha, hab⟩ := e2 i b hb; exact ih a b _ hab (hh i a ha)
    · cases h with
      | tup _ vs hl hh => obtain ⟨e1, e2⟩ := FzL_get e; exact .tup _ vs (by omega) fun i b hb => by obtain ⟨a, ha, hab⟩ := e2 i b hb; exact ih a b _ hab (hh i a ha)
    · rename_i id' sz off len cap ex sz' n f
      obtain ⟨⟨⟨rfl, hsz⟩, rfl, rfl⟩, hrow⟩ := e
      cases h with
      | hnil _ _ _ _ hs hN => exact .sl _ _ _ _ (.sl _ _ _ none 0 (fun _ _ => undef) 0 0 (by simp) (fun h => absurd h (by omega)) (fun i hi => absurd hi (by omega)) (fun i j hi => absurd hi (by omega)) (fun i j x hi => absurd hi (by omega)))
      | hsl _ _ _ _ _ _ A b o c hs hN hl hc hx' hm hA hA0 room =>
        rcases (hw.own _ _ hg).2 with ⟨h1, h2, h3⟩ | ⟨b2, o2, h2, nf, ⟨cs, el, h5, h6, h8, h7⟩ | ⟨g1, g2, m, g3, g4⟩⟩
        · rw [hs] at h2; cases h2
        · rw [hs] at h2; cases h2
          refine .sl _ _ _ _ (.sl sz' n f A c (fun i j => cs.getD (o + ((off + i) * blk.sz + j)) undef) b (o + off * sz') ⟨by omega, hm⟩ (fun h => ⟨hA (by omega), .inr ⟨o, hs⟩⟩) (fun i hi => ?_) (fun i j hi hj => ?_) (fun i j x hi hxx => ?_))
          · have := (h7 _ _ (hrow i hi)).1
            rw [List.length_map] at this
            omega
          · have h9 := (h7 _ _ (hrow i hi)).1
            have hb := (List.getElem?_eq_some_iff.1 (hrow i hi)).1
            have hlt : o + ((off + i) * blk.sz + j) < cs.size := by
              have : (off + i + 1) * blk.sz ≤ blk.rows.length * blk.sz := Nat.mul_le_mul_right _ hb
              rw [Nat.add_mul, Nat.one_mul] at this
              omega
            have e1 : o + off * sz' + (i * sz' + j) = o + ((off + i) * blk.sz + j) := by rw [hsz, Nat.add_mul]; omega
            rw [e1]
            simp [World.cell?, h5, Array.getD_eq_getD_getElem?, hlt]
          · have h9 := (h7 _ _ (hrow i hi)).2 j x.up (by simp [hxx])
            exact h9.unup.mono (fun _ h => .inl h) (fun _ _ => rfl)
        · rw [hs] at h2; cases h2
          have := hrow
          obtain ⟨cs, el, q1, q2⟩ := room
          have hm' := g4.lt
          obtain ⟨es, ck, hm'⟩ := hm'
          rw [q1] at hm'; cases hm'
    · cases e; exact lift _ _ h
def fzFr (id : Nat) (blk : E.Blk) (fr : Fr) : Fr → Prop
  | [] => True
  | (t, x1) :: l => FzR id blk 4 (E.look fr t) x1 ∧ fzFr id blk fr l
def FzM (R : List AV → List AV → Prop) : List (List AV) → List (List AV) → Prop
  | [], [] => True
  | a :: l, b :: m => R a b ∧ FzM R l m
  | _, _ => False
theorem FzM_get {R : List AV → List AV → Prop} : ∀ {l m : List (List AV)}, FzM R l m → l.length = m.length ∧ ∀ (i : Nat) (b : List AV), m[i]? = some b → ∃ a, l[i]? = some a ∧ R a b
  | [], [], _ => ⟨rfl, fun i b hb => by simp at hb⟩
  | a :: l, b :: m, h => by
    obtain ⟨h1, h2⟩ := FzM_get h.2
    refine ⟨by simp [h1], fun i x hx => ?_⟩
    cases i with
    | zero => simp at hx; subst hx; exact ⟨a, rfl, h.1⟩
    | succ i => simpa using h2 i x (by simpa using hx)
  | [], _ :: _, h => h.elim
  | _ :: _, [], h => h.elim
def fzBlk (id : Nat) (blk b0 b1 : E.Blk) : Prop := b1 = b0 ∨ (b1.sz = b0.sz ∧ b0.mp = none ∧ b1.mp = none ∧ FzM (FzL (FzR id blk 4)) b0.rows b1.rows)
def fzHp (id : Nat) (blk : E.Blk) (H : Hp) : List (Nat × Option E.Blk) → Prop
  | [] => True
  | (k, some b1) :: l => (Nat.beq k id = false ∧ ∃ b0, H.get k = some b0 ∧ fzBlk id blk b0 b1) ∧ fzHp id blk H l
  | (_, none) :: l => fzHp id blk H l
theorem fzHp_get {id : Nat} {blk : E.Blk} {H : Hp} : ∀ {es : List (Nat × Option E.Blk)} {k : Nat} {b1 : E.Blk}, fzHp id blk H es → E.blkOf es k = some b1 → k ≠ id ∧ ∃ b0, H.get k = some b0 ∧ fzBlk id blk b0 b1
  | [], k, b1, _, hg => by simp [E.blkOf_nil, E.blkOf_cons] at hg
  | (j, ob) :: l, k, b1, h, hg => by
    simp only [E.blkOf_nil, E.blkOf_cons, beq_eq] at hg
    by_cases c : j = k
    · subst c
      simp only [decide_true, cond_true] at hg
      subst hg
      refine ⟨fun e => ?_, h.1.2⟩
      have := h.1.1
      rw [e, beq_eq] at this; simp at this
    · simp only [c, decide_false, cond_false] at hg
      cases ob with
      | none => exact fzHp_get (es := l) h hg
      | some b' => exact fzHp_get (es := l) h.2 hg
theorem fzFr_look {id : Nat} {blk : E.Blk} {fr : Fr} : ∀ {fr1 : Fr}, fzFr id blk fr fr1 → ∀ t, E.look fr1 t = .junk ∨ FzR id blk 4 (E.look fr t) (E.look fr1 t)
  | [], _, t => .inl rfl
  | (k, x) :: l, h, t => by
    rw [look_cons]
    by_cases c : k = t
    · subst c; rw [if_pos rfl]; exact .inr h.1
    · rw [if_neg c]; exact fzFr_look h.2 t
/-- A block is frozen, in the frame and inside the other blocks. -/
theorem Wk.fzH {n0 : Nat} {fr fr1 : Fr} {H : Hp} {es1 : List (Nat × Option E.Blk)} {id : Nat} {blk : E.Blk} (hg : H.get id = some blk) (hf : fzFr id blk fr fr1) (hH : fzHp id blk H es1) : Wk n0 fr H fr1 ⟨H.next, es1⟩ := ⟨fun σ F w tmps hn hw hfr => by
  have lift : ∀ (x : AV) (v : Value), AR H.next σ F w x v → AR H.next σ (Fplus F σ id) w x v := fun x v h =>
    h.mono (fun id hid => ⟨hid, rfl⟩) (fun _ h => .inl h) (fun _ _ => rfl) (fun b cs el z h => ⟨cs, h, rfl⟩)
  have hset : ∀ k b, (⟨H.next, es1⟩ : Hp).get k = some b → k ≠ id ∧ ∃ b0, H.get k = some b0 ∧ fzBlk id blk b0 b := fun k b h => fzHp_get hH h
  have hF' : ∀ b, Fplus F σ id b → b < w.heap.size := fun b hb => by
    rcases hb with h | ⟨o, h⟩
    · exact hw.frz b h
    · exact hw.liveLt ⟨id, blk, o, hg, h⟩
  have hX : Ext n0 σ F H w σ (Fplus F σ id) ⟨H.next, es1⟩ w :=
    ⟨⟨hn, hn⟩, fun _ _ => rfl, fun _ h => .inl h, fun b hb => hb.elim .inl (fun ⟨o, h⟩ => .inr (.inr ⟨id, blk, o, hg, h⟩)), fun _ _ _ => rfl, fun b cs el z h => ⟨cs, h, rfl⟩, fun b ⟨k, bl, o, h1, h2⟩ => by
      obtain ⟨_, b0, h3, _⟩ := hset k bl h1
      exact .inl ⟨k, b0, o, h3, h2⟩, Nat.le_refl _, rfl, rfl, rfl⟩
  refine ⟨σ, Fplus F σ id, hX, ⟨fun k b h => ?_, fun k k' b b' c o o' h h' => ?_, hF'⟩, fun s => ?_⟩
  · obtain ⟨hk, b0, h1, hb⟩ := hset k b h
    refine ⟨(hw.own k b0 h1).1, ?_⟩
    have hnf : ∀ {c o}, σ k = some (c, o) → ¬ F c → ¬ Fplus F σ id c := fun {c o} h2 h3 hc => by
      rcases hc with hc | ⟨o', hc⟩
      · exact h3 hc
      · exact hk (hw.inj k id b0 blk c o o' h1 hg h2 hc)
    rcases hb with rfl | ⟨hz, hm0, hm1, hr⟩
    · rcases (hw.own k _ h1).2 with h2 | ⟨c, o, h2, h3⟩
      · exact .inl h2
      · exact .inr ⟨c, o, h2, h3.mono (fun id hid => ⟨hid, rfl⟩) (fun _ h => .inl h) (fun _ _ => rfl) (fun b cs el z h => ⟨cs, h, rfl⟩) rfl (hnf h2 h3.nf)⟩
    · obtain ⟨hl, hrr⟩ := FzM_get hr
      rcases (hw.own k b0 h1).2 with ⟨h2, h3, h4⟩ | ⟨c, o, h2, nf, ⟨cs, el, h5, h6, h8, h7⟩ | ⟨g1, g2, m, g3, g4⟩⟩
      · refine .inl ⟨List.eq_nil_of_length_eq_zero ?_, h3, hm1⟩
        rw [h2] at hl; simpa using hl.symm
      · refine .inr ⟨c, o, h2, hnf h2 nf, .inl ⟨cs, el, h5, by rw [← hl, hz]; exact h6, hm1, fun i row hrow => ?_⟩⟩
        obtain ⟨row0, hrow0, hrel⟩ := hrr i row hrow
        obtain ⟨hl2, hc2⟩ := FzL_get hrel
        refine ⟨by rw [← hl2, hz]; exact (h7 i row0 hrow0).1, fun j x hx => ?_⟩
        obtain ⟨x0, hx0, hxr⟩ := hc2 j x hx
        rw [hz]
        exact AR.fz hw hg 4 x0 x _ hxr ((h7 i row0 hrow0).2 j x0 hx0)
      · rw [hm0] at g3; cases g3
  · obtain ⟨_, b0, h1, _⟩ := hset k b h
    obtain ⟨_, b0', h1', _⟩ := hset k' b' h'
    exact hw.inj k k' b0 b0' c o o' h1 h1'
  · rcases fzFr_look hf s with e | e
    · rw [e]; exact .junk _
    · exact AR.fz hw hg 4 _ _ _ e (hfr s)⟩
end Go.Proofs.YtdblhmpcilihnaaGreat
