/- Freezing: blocks that nobody writes any more, wherever their slices lie. -/
import Derived.Test.YtdblhmpcilihnaaGreatEngB
namespace Go.Proofs.YtdblhmpcilihnaaGreat.E
open Go
noncomputable section
set_option linter.unusedVariables false
set_option linter.unusedSimpArgs false

/-- A value in which the slices of some blocks are frozen, however deep, and no slice is an empty slice. -/
def Frz (z : Nat → Bool) (H : Hp) : Nat → AV → AV → Prop
  | 0, x, y => x = y
  | d + 1, x, y => match x, y with
    | .agg l, .agg m => FzL (Frz z H d) l m
    | .tup l, .tup m => FzL (Frz z H d) l m
    | .hsl id sz off len cap ex, .sl sz' n f => ((sz' = sz ∧ n = len) ∧ z id = true) ∧ ∃ blk, H.get id = some blk ∧ sz = blk.sz ∧ ∀ i, i < len → ∃ row, blk.rows[off + i]? = some row ∧ FzL (Frz z H d) row ((f i).map FV.up)
    | .val (.slice none 0 0), .sl sz n f => n = 0
    | x, y => x = y
def FzSet (z : Nat → Bool) (H : Hp) (σ : Sg) (F : Nat → Prop) : Nat → Prop := fun b => F b ∨ ∃ id blk o, z id = true ∧ H.get id = some blk ∧ σ id = some (b, o)
theorem AR.frz {z : Nat → Bool} {σ : Sg} {F : Nat → Prop} {H : Hp} {w : World} (hw : WR σ F H w) : ∀ (d : Nat) (x y : AV) (v : Value), Frz z H d x y → AR H.next σ F w x v → AR H.next σ (FzSet z H σ F) w y v := by
  have lift : ∀ (x : AV) (v : Value), AR H.next σ F w x v → AR H.next σ (FzSet z H σ F) w x v := fun x v h =>
    h.mono (fun id hid => ⟨hid, rfl⟩) (fun _ h => .inl h) (fun _ _ => rfl) (fun b cs el z h => ⟨cs, h, rfl⟩)
  intro d
  induction d with
  | zero => intro x y v e h; cases e; exact lift _ _ h
  | succ d ih =>
    intro x y v e h
    unfold Frz at e
    split at e
    · cases h with
      | agg _ vs hl hh => obtain ⟨e1, e2⟩ := FzL_get e; exact .agg _ vs (by omega) fun i b hb => by obtain ⟨a, ha, hab⟩ := e2 i b hb; exact ih a b _ hab (hh i a ha)
    · cases h with
      | tup _ vs hl hh => obtain ⟨e1, e2⟩ := FzL_get e; exact .tup _ vs (by omega) fun i b hb => by obtain ⟨a, ha, hab⟩ := e2 i b hb; exact ih a b _ hab (hh i a ha)
    · rename_i id sz off len cap ex sz' n f
      obtain ⟨⟨⟨rfl, rfl⟩, hz⟩, blk, hg, rfl, hrow⟩ := e
      cases h with
      | hnil _ _ _ _ hs hN => exact .sl _ _ _ _ (.sl _ _ _ none 0 (fun _ _ => undef) 0 0 (by simp) (fun h => absurd h (by omega)) (fun i hi => absurd hi (by omega)) (fun i j hi => absurd hi (by omega)) (fun i j x hi => absurd hi (by omega)))
      | hsl _ _ _ _ _ _ A b o c hs hN hl hc hx' hm hA hA0 room =>
        rcases (hw.own _ _ hg).2 with ⟨h1, h2, h3⟩ | ⟨b2, o2, h2, nf, ⟨cs, el, h5, h6, h8, h7⟩ | ⟨g1, g2, m, g3, g4⟩⟩
        · rw [hs] at h2; cases h2
        · rw [hs] at h2; cases h2
          refine .sl _ _ _ _ (.sl blk.sz n f A c (fun i j => cs.getD (o + ((off + i) * blk.sz + j)) undef) b (o + off * blk.sz) ⟨by omega, hm⟩ (fun h => ⟨hA (by omega), .inr ⟨id, blk, o, hz, hg, hs⟩⟩) (fun i hi => ?_) (fun i j hi hj => ?_) (fun i j x hi hxx => ?_))
          · obtain ⟨row, hr, hrel⟩ := hrow i hi
            have := (h7 _ _ hr).1
            have := (FzL_get hrel).1
            rw [List.length_map] at this
            omega
          · obtain ⟨row, hr, hrel⟩ := hrow i hi
            have h9 := (h7 _ _ hr).1
            have hb := (List.getElem?_eq_some_iff.1 hr).1
            have hlt : o + ((off + i) * blk.sz + j) < cs.size := by
              have : (off + i + 1) * blk.sz ≤ blk.rows.length * blk.sz := Nat.mul_le_mul_right _ hb
              rw [Nat.add_mul, Nat.one_mul] at this
              omega
            have e1 : o + off * blk.sz + (i * blk.sz + j) = o + ((off + i) * blk.sz + j) := by rw [Nat.add_mul]; omega
            rw [e1]
            simp [World.cell?, h5, Array.getD_eq_getD_getElem?, hlt]
          · obtain ⟨row, hr, hrel⟩ := hrow i hi
            obtain ⟨a, ha, hab⟩ := (FzL_get hrel).2 j x.up (by simp [hxx])
            exact (ih a x.up _ hab ((h7 _ _ hr).2 j a ha)).unup
        · rw [hs] at h2; cases h2
          obtain ⟨cs, el, q1, q2⟩ := room
          obtain ⟨es, ck, hm'⟩ := g4.lt
          rw [q1] at hm'; cases hm'
    · rename_i sz n f
      subst e
      cases h
      exact .sl _ _ _ _ (.sl _ _ _ none 0 (fun _ _ => undef) 0 0 (by simp) (fun h => absurd h (by omega)) (fun i hi => absurd hi (by omega)) (fun i j hi => absurd hi (by omega)) (fun i j x hi => absurd hi (by omega)))
    · cases e; exact lift _ _ h
def frzFr (z : Nat → Bool) (H : Hp) (fr : Fr) : Fr → Prop
  | [] => True
  | (t, x1) :: l => Frz z H 5 (look fr t) x1 ∧ frzFr z H fr l
theorem frzFr_look {z : Nat → Bool} {H : Hp} {fr : Fr} : ∀ {fr1 : Fr}, frzFr z H fr fr1 → ∀ t, look fr1 t = .junk ∨ Frz z H 5 (look fr t) (look fr1 t)
  | [], _, t => .inl rfl
  | (k, x) :: l, h, t => by
    rw [look_cons]
    by_cases c : k = t
    · subst c; rw [if_pos rfl]; exact .inr h.1
    · rw [if_neg c]; exact frzFr_look h.2 t
def FzRows (R : List AV → List AV → Prop) (r r1 : List (List AV)) : Prop := r.length = r1.length ∧ ∀ (i : Nat) (a b : List AV), r[i]? = some a → r1[i]? = some b → R a b
/-- Blocks that stay as they are, or in which others' slices are frozen. -/
def frzHp (z : Nat → Bool) (H : Hp) : List (Nat × Option Blk) → Prop
  | [] => True
  | (k, some b1) :: l => (z k = false ∧ ∃ b0, H.get k = some b0 ∧ (b1 = b0 ∨ (b1.sz = b0.sz ∧ b0.mp = none ∧ b1.mp = none ∧ FzRows (FzL (Frz z H 5)) b0.rows b1.rows))) ∧ frzHp z H l
  | (_, none) :: l => frzHp z H l
theorem frzHp_get {z : Nat → Bool} {H : Hp} : ∀ {es : List (Nat × Option Blk)} {k : Nat} {b1 : Blk}, frzHp z H es → blkOf es k = some b1 → z k = false ∧ ∃ b0, H.get k = some b0 ∧ (b1 = b0 ∨ (b1.sz = b0.sz ∧ b0.mp = none ∧ b1.mp = none ∧ FzRows (FzL (Frz z H 5)) b0.rows b1.rows))
  | [], k, b1, _, hg => by simp [blkOf_nil, blkOf_cons] at hg
  | (j, ob) :: l, k, b1, h, hg => by
    simp only [blkOf_nil, blkOf_cons, beq_eq] at hg
    by_cases c : j = k
    · subst c
      simp only [decide_true, cond_true] at hg
      subst hg
      exact h.1
    · simp only [c, decide_false, cond_false] at hg
      cases ob with
      | none => exact frzHp_get (es := l) h hg
      | some b' => exact frzHp_get (es := l) h.2 hg
/-- Some blocks are frozen, wherever their slices lie. -/
theorem Wk.frz0 {n0 : Nat} {fr fr1 : Fr} {H : Hp} {es1 : List (Nat × Option Blk)} (z : Nat → Bool) (hf : frzFr z H fr fr1) (hH : ∀ k b1, blkOf es1 k = some b1 → z k = false ∧ ∃ b0, H.get k = some b0 ∧ (b1 = b0 ∨ (b1.sz = b0.sz ∧ b0.mp = none ∧ b1.mp = none ∧ FzRows (FzL (Frz z H 5)) b0.rows b1.rows))) : Wk n0 fr H fr1 ⟨H.next, es1⟩ := ⟨fun σ F w tmps hn hw hfr => by
  have lift : ∀ (x : AV) (v : Value), AR H.next σ F w x v → AR H.next σ (FzSet z H σ F) w x v := fun x v h =>
    h.mono (fun id hid => ⟨hid, rfl⟩) (fun _ h => .inl h) (fun _ _ => rfl) (fun b cs el z h => ⟨cs, h, rfl⟩)
  have hset : ∀ k b, (⟨H.next, es1⟩ : Hp).get k = some b → z k = false ∧ ∃ b0, H.get k = some b0 ∧ (b = b0 ∨ (b.sz = b0.sz ∧ b0.mp = none ∧ b.mp = none ∧ FzRows (FzL (Frz z H 5)) b0.rows b.rows)) := fun k b h => hH k b h
  have hF' : ∀ b, FzSet z H σ F b → b < w.heap.size := fun b hb => by
    rcases hb with h | ⟨id, blk, o, _, hg, h⟩
    · exact hw.frz b h
    · exact hw.liveLt ⟨id, blk, o, hg, h⟩
  have hX : Ext n0 σ F H w σ (FzSet z H σ F) ⟨H.next, es1⟩ w :=
    ⟨⟨hn, hn⟩, fun _ _ => rfl, fun _ h => .inl h, fun b hb => hb.elim .inl (fun ⟨id, blk, o, _, hg, h⟩ => .inr (.inr ⟨id, blk, o, hg, h⟩)), fun _ _ _ => rfl, fun b cs el z h => ⟨cs, h, rfl⟩, fun b ⟨k, bl, o, h1, h2⟩ => by
      obtain ⟨_, b0, h3, _⟩ := hset k bl h1
      exact .inl ⟨k, b0, o, h3, h2⟩, Nat.le_refl _, rfl, rfl, rfl⟩
  refine ⟨σ, FzSet z H σ F, hX, ⟨fun k b h => ?_, fun k k' b b' c o o' h h' => ?_, hF'⟩, fun s => ?_⟩
  · obtain ⟨hk, b0, h1, hb⟩ := hset k b h
    refine ⟨(hw.own k b0 h1).1, ?_⟩
    have hnf : ∀ {c o}, σ k = some (c, o) → ¬ F c → ¬ FzSet z H σ F c := fun {c o} h2 h3 hc => by
      rcases hc with hc | ⟨id, blk, o', hz, hg, hc⟩
      · exact h3 hc
      · have := hw.inj k id b0 blk c o o' h1 hg h2 hc
        rw [this, hz] at hk; cases hk
    rcases hb with rfl | ⟨hz, hm0, hm1, hl, hrr⟩
    · rcases (hw.own k _ h1).2 with h2 | ⟨c, o, h2, h3⟩
      · exact .inl h2
      · exact .inr ⟨c, o, h2, h3.mono (fun id hid => ⟨hid, rfl⟩) (fun _ h => .inl h) (fun _ _ => rfl) (fun b cs el z h => ⟨cs, h, rfl⟩) rfl (hnf h2 h3.nf)⟩
    · rcases (hw.own k b0 h1).2 with ⟨h2, h3, h4⟩ | ⟨c, o, h2, nf, ⟨cs, el, h5, h6, h8, h7⟩ | ⟨g1, g2, m, g3, g4⟩⟩
      · refine .inl ⟨List.eq_nil_of_length_eq_zero ?_, h3, hm1⟩
        rw [h2] at hl; simpa using hl.symm
      · refine .inr ⟨c, o, h2, hnf h2 nf, .inl ⟨cs, el, h5, by rw [← hl, hz]; exact h6, hm1, fun i row hrow => ?_⟩⟩
        have hlt : i < b0.rows.length := by rw [hl]; exact (List.getElem?_eq_some_iff.1 hrow).1
        have hrow0 : b0.rows[i]? = some b0.rows[i] := by simp [hlt]
        obtain ⟨hl2, hc2⟩ := FzL_get (hrr i _ _ hrow0 hrow)
        refine ⟨by rw [← hl2, hz]; exact (h7 i _ hrow0).1, fun j x hx => ?_⟩
        obtain ⟨x0, hx0, hxr⟩ := hc2 j x hx
        rw [hz]
        exact AR.frz hw 5 x0 x _ hxr ((h7 i _ hrow0).2 j x0 hx0)
      · rw [hm0] at g3; cases g3
  · obtain ⟨_, b0, h1, _⟩ := hset k b h
    obtain ⟨_, b0', h1', _⟩ := hset k' b' h'
    exact hw.inj k k' b0 b0' c o o' h1 h1'
  · rcases frzFr_look hf s with e | e
    · rw [e]; exact .junk _
    · exact AR.frz hw 5 _ _ _ e (hfr s)⟩
theorem Wk.frz {n0 : Nat} {fr fr1 : Fr} {H : Hp} {es1 : List (Nat × Option Blk)} (z : Nat → Bool) (hf : frzFr z H fr fr1) (hH : frzHp z H es1) : Wk n0 fr H fr1 ⟨H.next, es1⟩ := Wk.frz0 z hf fun k b h => frzHp_get hH h
/-- All blocks but some. -/
def keepE (z : Nat → Bool) : List (Nat × Option Blk) → List (Nat × Option Blk)
  | [] => []
  | (k, b) :: l => bif z k then keepE z l else (k, b) :: keepE z l
theorem keepE_get {z : Nat → Bool} : ∀ (es : List (Nat × Option Blk)) (k : Nat) (b : Blk), blkOf (keepE z es) k = some b → z k = false ∧ blkOf es k = some b
  | [], k, b, h => by simp [keepE, blkOf_nil] at h
  | (j, ob) :: l, k, b, h => by
    unfold keepE at h
    cases hz : z j
    · rw [hz] at h
      simp only [cond_false, blkOf_cons, beq_eq] at h ⊢
      by_cases c : j = k
      · subst c
        simp only [decide_true, cond_true] at h ⊢
        exact ⟨hz, h⟩
      · simp only [c, decide_false, cond_false] at h ⊢
        exact keepE_get l k b h
    · rw [hz] at h
      simp only [cond_true] at h
      obtain ⟨h1, h2⟩ := keepE_get l k b h
      refine ⟨h1, ?_⟩
      have c : ¬ j = k := fun e => by rw [e, h1] at hz; cases hz
      simp only [blkOf_cons, beq_eq, c, decide_false, cond_false]
      exact h2
theorem blkOf_app : ∀ (a b : List (Nat × Option Blk)) (id : Nat) (x : Blk), blkOf (a ++ b) id = some x → blkOf a id = some x ∨ blkOf b id = some x
  | [], b, id, x, h => .inr h
  | (k, v) :: a, b, id, x, h => by
    simp only [List.cons_append, blkOf_cons, beq_eq] at h ⊢
    by_cases c : k = id
    · subst c; simp only [decide_true, cond_true] at h ⊢; exact .inl h
    · simp only [c, decide_false, cond_false] at h ⊢; exact blkOf_app a b id x h
/-- Some blocks are frozen; of the others, those of 'ov' are named anew, the rest stays. -/
theorem Wk.frzK {n0 : Nat} {fr fr1 : Fr} {H : Hp} (z : Nat → Bool) (ov : List (Nat × Option Blk)) (hf : frzFr z H fr fr1) (ho : frzHp z H ov) : Wk n0 fr H fr1 ⟨H.next, ov ++ keepE z H.es⟩ :=
  Wk.frz0 z hf fun k b h => by
    rcases blkOf_app _ _ _ _ h with h | h
    · exact frzHp_get ho h
    · obtain ⟨h1, h2⟩ := keepE_get _ _ _ h
      exact ⟨h1, b, h2, .inl rfl⟩
theorem ACalls.wk {P : Program} {g : FuncId} {args args1 : List AV} {H H1 : Hp} {K : AV → Hp → Prop} (hk : Wk H.next (argFr 0 args) H (argFr 0 args1) H1) (hl : args1.length = args.length) (h : ACalls P g args1 H1 K) : ACalls P g args H K := by
  refine ⟨h.ok, fun σ F w vs hw hr => ?_⟩
  obtain ⟨σ', F', hx, hw', hf'⟩ := hk.run σ F w vs (Nat.le_refl _) hw (fun t => by
    rw [look_argFr]
    simp only [Nat.zero_le, if_true, Nat.sub_zero]
    cases hx : args[t]? with
    | none => exact .junk _
    | some x => exact hr.2 t x hx)
  have hr' : Rs H1.next σ' F' w args1 vs := ⟨by rw [hr.1, hl], fun i x hx => by
    have := hf' i
    rw [look_argFr] at this
    simp only [Nat.zero_le, if_true, Nat.sub_zero, hx, Option.getD_some] at this
    exact this⟩
  refine (h.run σ' F' w vs hw' hr').mono ?_
  rintro e w' ⟨v, rfl, x, σ2, F2, H2, hK, hx2, hw2, hr2⟩
  exact ⟨v, rfl, x, σ2, F2, H2, hK, hx.trans (hx2.weak hx.n.2), hw2, hr2⟩
/-- At a call: some blocks are frozen. -/
theorem ACalls.fz {P : Program} {g : FuncId} {args args1 : List AV} {H : Hp} {K : AV → Hp → Prop} (z : Nat → Bool) (ov : List (Nat × Option Blk)) (hf : frzFr z H (argFr 0 args) (argFr 0 args1)) (ho : frzHp z H ov) (hl : args1.length = args.length) (h : ACalls P g args1 ⟨H.next, ov ++ keepE z H.es⟩ K) : ACalls P g args H K :=
  ACalls.wk (Wk.frzK z ov hf ho) hl h
theorem ret_frz {n0 : Nat} {x x1 : AV} {H : Hp} {K : AV → Hp → Prop} (hx : Frz (fun _ => true) H 5 x x1) (hk : K x1 ⟨H.next, []⟩) : ∃ x1 H1, Wk n0 [(0, x)] H [(0, x1)] H1 ∧ K x1 H1 :=
  ⟨x1, _, Wk.frz (es1 := []) (fun _ => true) ⟨hx, trivial⟩ trivial, hk⟩
theorem frz_same {z : Nat → Bool} {H : Hp} : ∀ (d : Nat) (a : FV), Frz z H d a.up a.up
  | 0, _ => rfl
  | d + 1, .sl .. => rfl
  | d + 1, .val v => by
    show Frz z H (d + 1) (.val v) (.val v)
    unfold Frz
    split <;> first | rfl | (rename_i h1 h2; cases h2) | (rename_i h1; cases h1) | simp_all
theorem frz_sameL {z : Nat → Bool} {H : Hp} {d : Nat} : ∀ l : List FV, FzL (Frz z H d) (l.map FV.up) (l.map FV.up)
  | [] => trivial
  | a :: l => ⟨frz_same d a, frz_sameL l⟩
theorem frz_refl {z : Nat → Bool} {H : Hp} : ∀ (d : Nat) (x : AV), Frz z H d x x
  | 0, _ => rfl
  | d + 1, x => by
    have hL : ∀ l : List AV, FzL (Frz z H d) l l := fun l => by
      induction l with
      | nil => trivial
      | cons a l ih => exact ⟨frz_refl d a, ih⟩
    cases x with
    | agg l => exact hL l
    | tup l => exact hL l
    | val v => exact frz_same (d + 1) (.val v)
    | _ => exact rfl
/-- Rows that are a list's. -/
theorem frz_rows {α : Type} [Inhabited α] {z : Nat → Bool} {H : Hp} {d id sz n cap : Nat} {ex : Bool} {fv : α → List FV} {L : List α} {mp : Option MB} (hz : z id = true) (hg : H.get id = some ⟨sz, L.map fun x => (fv x).map FV.up, mp⟩) (hn : n = L.length) : Frz z H (d + 1) (.hsl id sz 0 n cap ex) (.sl sz n fun i => fv (L.getD i default)) := by
  refine ⟨⟨⟨rfl, rfl⟩, hz⟩, _, hg, rfl, fun i hi => ⟨_, by rw [Nat.zero_add, List.getElem?_map, List.getElem?_eq_getElem (by omega)]; rfl, ?_⟩⟩
  have e : L.getD i default = L[i]'(by omega) := by simp [List.getD_eq_getElem?_getD, show i < L.length by omega]
  show FzL (Frz z H d) ((fv (L[i]'(by omega))).map FV.up) ((fv (L.getD i default)).map FV.up)
  rw [e]
  exact frz_sameL _
theorem frz_rng' {z : Nat → Bool} {H : Hp} {d id sz n m cap : Nat} {ex : Bool} {f : Nat → List FV} {rows : List (List AV)} {mp : Option MB} (hn : n = m) (hz : z id = true) (hg : H.get id = some ⟨sz, rows, mp⟩) (hr : ∀ i, i < m → rows[i]? = some ((f i).map FV.up)) : Frz z H (d + 1) (.hsl id sz 0 n cap ex) (.sl sz m f) := by
  subst hn
  exact ⟨⟨⟨rfl, rfl⟩, hz⟩, _, hg, rfl, fun i hi => ⟨_, by rw [Nat.zero_add]; exact hr i hi, frz_sameL _⟩⟩
theorem fzRows1 {R : List AV → List AV → Prop} {a b : List AV} (h : R a b) : FzRows R [a] [b] := ⟨rfl, fun i x y hx hy => by
  cases i with
  | zero => simp at hx hy; subst hx hy; exact h
  | succ i => simp at hx⟩
/-- Rows that were copied whole. -/
theorem over_all {rows X : List (List AV)} (h : rows.length = X.length) : overRows rows 0 X = X := by
  unfold overRows
  simp only [List.take_zero, List.nil_append, Nat.zero_add]
  rw [List.drop_of_length_le (by omega), List.append_nil]
theorem frz_rng {z : Nat → Bool} {H : Hp} {d id sz n cap : Nat} {ex : Bool} {f : Nat → List FV} {rows : List (List AV)} {mp : Option MB} (hz : z id = true) (hg : H.get id = some ⟨sz, rows, mp⟩) (hr : ∀ i, i < n → rows[i]? = some ((f i).map FV.up)) : Frz z H (d + 1) (.hsl id sz 0 n cap ex) (.sl sz n f) :=
  ⟨⟨⟨rfl, rfl⟩, hz⟩, _, hg, rfl, fun i hi => ⟨_, by rw [Nat.zero_add]; exact hr i hi, frz_sameL _⟩⟩
end
end Go.Proofs.YtdblhmpcilihnaaGreat.E
