import Derived.Test.YtdblhmpcilihnaaGreatEngA
import Derived.Scope
import Derived.KernelRfl
set_option linter.unusedSimpArgs false
set_option linter.unusedVariables false
namespace Go.Proofs.YtdblhmpcilihnaaGreat.E
open Go
noncomputable section
set_option linter.unusedVariables false
set_option linter.unusedSimpArgs false
section
variable {P : Program} {N n0 : Nat} {σ σ' : Sg} {F F' : Nat → Prop} {H H' H1 H2 : Hp} {w w' : World} {fr : Fr} {t u : TypeId} {k : Kd} {K : AV → Hp → Prop}

def appCap (w : World) (need cap : Nat) (e : TypeId) : Nat := need + w.tape w.drawn (.appendCap need cap e) % (2 ^ 63 - need)

/-- append where there is room. -/
theorem run_app_room {el el' : TypeId} {ty : TypeId} (ht : P.underlying t = some (.slice el)) (hu : P.underlying u = some (.slice el')) (hk : kd P el = some k) (A : Option Addr) (sLen sCap : Nat) (vx : Value) (n : Nat) (hx : ∃ A c, vx = .slice A n c)
    (news : List Value) (hfx : (Builtin.firstCells k.size n vx).run P w = .ok news.toArray w) (hroom : sLen + n ≤ sCap) (w' : World)
    (hst : (match A with | some a => storeCells (a.add (sLen * k.size)) news | none => pure () : Sem Unit).run P w = .ok () w') :
    (Builtin.append_ #[t, u] ty #[.slice A sLen sCap, vx]).run P w = .ok (.slice A (sLen + n) sCap) w' := by
  obtain ⟨A', c, rfl⟩ := hx
  cases A with
  | none =>
    simp only [Sem.run_pure] at hst
    injection hst with _ h2
    subst h2
    simp [Builtin.append_, run_underlying ht, run_underlying hu, run_size (w := w) hk, Builtin.lenOf, hroom, hfx]
  | some a => simp [Builtin.append_, run_underlying ht, run_underlying hu, run_size (w := w) hk, Builtin.lenOf, hroom, hfx, hst]

/-- append where there is none. -/
theorem run_app_grow {el el' : TypeId} {ty : TypeId} (ht : P.underlying t = some (.slice el)) (hu : P.underlying u = some (.slice el')) (hk : kd P el = some k) (A : Option Addr) (sLen sCap : Nat) (vx : Value) (n : Nat) (hx : ∃ A c, vx = .slice A n c)
    (news olds : List Value) (hfx : (Builtin.firstCells k.size n vx).run P w.drew = .ok news.toArray w.drew) (hfo : (Builtin.firstCells k.size sLen (.slice A sLen sCap)).run P w.drew = .ok olds.toArray w.drew) (hroom : sCap < sLen + n)
    (h48 : (sLen + n) * k.bytes ≤ 140737488355328) (h63 : sLen + n ≤ 9223372036854775807) : ∃ z : Array Value, z.toList = k.zero ∧
    (Builtin.append_ #[t, u] ty #[.slice A sLen sCap, vx]).run P w = .ok (.slice (some ⟨w.heap.size, 0, none⟩) (sLen + n) (appCap w (sLen + n) sCap el)) (w.drew.alloc (.cells (olds.toArray ++ news.toArray ++ Builtin.zeroCells z (appCap w (sLen + n) sCap el - (sLen + n))) el)) := by
  obtain ⟨A', c, rfl⟩ := hx
  obtain ⟨i, z, hi, hd, hz, hsz, hby, hzc, hag⟩ := kd_spec hk
  have hn : ¬ (sLen + n ≤ sCap) := by omega
  have h63' : ¬ (9223372036854775807 < ((sLen : Int) + (n : Int))) := by omega
  have hg := growslice_fits (bytes := k.bytes) hroom h48
  have h48' : ¬ (281474976710656 < Builtin.nextslicecap (sLen + n) sCap * i.bytes) := by rw [hby]; omega
  refine ⟨z.cells, hzc, ?_⟩
  have hsz' : (sizeOf el).run P w = .ok k.size w := run_size hk
  simp [Builtin.append_, run_underlying ht, run_underlying hu, hsz', typeInfo, zeroValue, hi, hz, Builtin.lenOf, hn, h63', h48', Question.forced, hfx, hfo, newRow, appCap, Question.cut]
  congr 2
  apply Array.ext'
  simp [List.append_assoc]

theorem appCap_ge (w : World) (need cap : Nat) (e : TypeId) : need ≤ appCap w need cap e := Nat.le_add_right _ _
theorem appCap_max (w : World) (need cap : Nat) (e : TypeId) (h : need ≤ 9223372036854775807) : appCap w need cap e ≤ maxLen := by
  unfold appCap maxLen
  have := Nat.mod_lt (w.tape w.drawn (.appendCap need cap e)) (show 0 < 2 ^ 63 - need by omega)
  omega

theorem store_nil (a : Addr) : (storeCells a []).run P w = .ok () w := rfl

/-- A grown row in a block of its own. -/
theorem grow_rel (hw : WR σ F H w) (rows : List (List AV)) (olds news : List Value) (z : Array Value) (sz len n : Nat) (S X : List (List AV)) (hrows : rows = S ++ X) (hS : S.length = len) (hX : X.length = n) (c : Nat) (el : TypeId) (hcm : c ≤ maxLen) (hc : len + n ≤ c)
    (hzl : z.size = sz) (ho : olds.length = len * sz) (hn : news.length = n * sz)
    (h1 : ∀ i row, S[i]? = some row → row.length = sz ∧ ∀ j y, row[j]? = some y → AR H.next σ F w y (olds.getD (i * sz + j) undef))
    (h2 : ∀ i row, X[i]? = some row → row.length = sz ∧ ∀ j y, row[j]? = some y → AR H.next σ F w y (news.getD (i * sz + j) undef)) :
    ∃ σ', Ext H.next σ F H w σ' F (H.push ⟨sz, rows, none⟩) (w.drew.alloc (.cells (olds.toArray ++ news.toArray ++ Builtin.zeroCells z (c - (len + n))) el)) ∧
      WR σ' F (H.push ⟨sz, rows, none⟩) (w.drew.alloc (.cells (olds.toArray ++ news.toArray ++ Builtin.zeroCells z (c - (len + n))) el)) ∧
      AR (fun id => id < H.next + 1) σ' F (w.drew.alloc (.cells (olds.toArray ++ news.toArray ++ Builtin.zeroCells z (c - (len + n))) el)) (.hsl H.next sz 0 (len + n) (len + n) false) (.slice (some ⟨w.heap.size, 0, none⟩) (len + n) c) := by
  have hsize : (olds.toArray ++ news.toArray ++ Builtin.zeroCells z (c - (len + n))).size = c * sz := by
    simp only [Array.size_append, List.size_toArray, size_zeroCells, hzl, ho, hn]
    rw [← Nat.add_mul, ← Nat.add_mul]; congr 1; omega
  have hw1 : WR σ F H w.drew := ⟨fun id blk hg => ⟨hw.lt hg, (hw.own id blk hg).2.elim .inl (fun ⟨b, o, h1, h2⟩ => .inr ⟨b, o, h1, At.mono (w := w) (w' := w.drew) (fun id hid => ⟨hid, rfl⟩) (fun _ h => h) (fun _ _ => rfl) (fun b cs el z h => ⟨cs, h, rfl⟩) rfl h2.nf h2⟩)⟩, hw.inj, hw.frz⟩
  have dm : ∀ {x v}, AR H.next σ F w x v → AR H.next σ F w.drew x v := fun h => AR.mono (w := w) (w' := w.drew) (fun id hid => ⟨hid, rfl⟩) (fun _ h => h) (fun _ _ => rfl) (fun b cs el z h => ⟨cs, h, rfl⟩) h
  obtain ⟨g1, g2, g3⟩ := newSlice hw1 rows sz (len + n) (len + n) false c _ el (Nat.le_refl _) hc (fun h => by cases h) hcm (by rw [hsize, hrows]; simp only [List.length_append, hS, hX]; exact Nat.mul_le_mul_right _ hc) (by rw [hsize]; exact Nat.le_refl _) (fun i row hr => by
    rw [hrows, List.getElem?_append] at hr
    by_cases ci : i < S.length
    · rw [if_pos ci] at hr
      obtain ⟨r1, r2⟩ := h1 i row hr
      refine ⟨r1, fun j y hy => ?_⟩
      have hj := (List.getElem?_eq_some_iff.1 hy).1
      rw [r1] at hj
      have := row_le (sz := sz) (show i < len by omega)
      have hv := dm (r2 j y hy)
      have e : (olds.toArray ++ news.toArray ++ Builtin.zeroCells z (c - (len + n))).getD (i * sz + j) undef = olds.getD (i * sz + j) undef := by
        simp only [Array.getD_eq_getD_getElem?, List.getD_eq_getElem?_getD]
        rw [Array.append_assoc, Array.getElem?_append_left (by simp; omega)]
        simp
      rw [e]; exact hv
    · rw [if_neg ci] at hr
      obtain ⟨r1, r2⟩ := h2 _ row hr
      have hil := (List.getElem?_eq_some_iff.1 hr).1
      refine ⟨r1, fun j y hy => ?_⟩
      have hj := (List.getElem?_eq_some_iff.1 hy).1
      rw [r1] at hj
      have := row_le (sz := sz) (show i - S.length < n by omega)
      have e1 : i * sz = len * sz + (i - S.length) * sz := by rw [← Nat.add_mul]; congr 1; omega
      have hv := dm (r2 j y hy)
      have e : (olds.toArray ++ news.toArray ++ Builtin.zeroCells z (c - (len + n))).getD (i * sz + j) undef = news.getD ((i - S.length) * sz + j) undef := by
        simp only [Array.getD_eq_getD_getElem?, List.getD_eq_getElem?_getD]
        rw [Array.append_assoc, Array.getElem?_append_right (by simp; omega), Array.getElem?_append_left (by simp; omega)]
        simp only [List.size_toArray, List.getElem?_toArray]
        congr 2; omega
      rw [e]; exact hv)
  exact ⟨_, { g1 with }, g2, g3⟩

theorem evAppend_sound {ty : TypeId} (hw : WR σ F H w) {s x : AV} {vs vx : Value} (hs : AR H.next σ F w s vs) (hx : AR H.next σ F w x vx) (h : evAppend P t u s x H K) :
    ∃ y v w' σ' H', (Builtin.append_ #[t, u] ty #[vs, vx]).run P w = .ok v w' ∧ K y H' ∧ Ext H.next σ F H w σ' F H' w' ∧ WR σ' F H' w' ∧ AR H'.next σ' F w' y v := by
  unfold evAppend at h
  split at h
  case h_2 => exact h.elim
  rename_i e e' he he'
  obtain ⟨el, ht, hk⟩ := elemSz_spec he
  obtain ⟨el', hu, _⟩ := elemSz_spec he'
  rw [beq_eq, ble_eq] at h
  by_cases c0 : e.zero.length = e.size ∧ 1 ≤ e.bytes
  case neg =>
    have : (decide (e.zero.length = e.size) && decide (1 ≤ e.bytes)) = false := by
      cases hh : (decide (e.zero.length = e.size) && decide (1 ≤ e.bytes))
      · rfl
      · simp only [Bool.and_eq_true, decide_eq_true_eq] at hh; exact absurd hh c0
    rw [this] at h; exact h.elim
  obtain ⟨c0, cby⟩ := c0
  simp only [c0, cby, decide_true, Bool.and_true, cond_true] at h
  have bnd : ∀ n : Nat, n * e.bytes ≤ 140737488355328 → n ≤ 9223372036854775807 := fun n hn => by
    have : n * 1 ≤ n * e.bytes := Nat.mul_le_mul_left _ cby
    omega
  split at h
  case h_2 => exact h.elim
  rename_i X hX
  obtain ⟨A, c, news, rfl, hnl, hfc, hXr, hXm⟩ := rowsOf_sound (P := P) hw hx hX
  have hfx : (Builtin.firstCells e.size X.length (.slice A X.length c)).run P w = .ok news.toArray w := hfc w.drawn
  have hfx' : (Builtin.firstCells e.size X.length (.slice A X.length c)).run P w.drew = .ok news.toArray w.drew := hfc (w.drawn + 1)
  have hXe : X.length = 0 → news = [] := fun h0 => List.eq_nil_of_length_eq_zero (by rw [hnl, h0]; simp)
  unfold maxLen at hXm
  split at h
  · -- onto nil
    obtain ⟨hb, hK⟩ := h
    cases hs
    by_cases h0 : X.length = 0
    · obtain rfl := hXe h0
      obtain rfl : X = [] := List.eq_nil_of_length_eq_zero h0
      obtain ⟨g1, g2⟩ := phantom_rel hw e.size
      exact ⟨_, _, w, _, _, run_app_room (ty := ty) ht hu hk none 0 0 _ 0 ⟨A, c, rfl⟩ [] hfx (Nat.le_refl _) w rfl, hK, g1, g2, .hnil _ _ _ _ (Sg.up_same ..) (Nat.lt_succ_self _)⟩
    · obtain ⟨z, hz, hrun⟩ := run_app_grow (ty := ty) ht hu hk none 0 0 (.slice A X.length c) X.length ⟨A, c, rfl⟩ news [] hfx' (run_firstCells_none ..) (by omega) (by rw [Nat.zero_add]; first | exact hb | (rw [Nat.zero_add] at q3; exact q3)) (by omega)
      obtain ⟨σ', g1, g2, g3⟩ := grow_rel hw X [] news z e.size 0 X.length [] X rfl rfl rfl (appCap w (0 + X.length) 0 el) el (appCap_max _ _ _ _ (by omega)) (appCap_ge _ _ _ _) (by rw [← c0, ← hz]; simp) (by simp) hnl (fun i row hr => by simp at hr) hXr
      simp only [Nat.zero_add] at hrun g1 g2 g3
      exact ⟨_, _, _, σ', _, hrun, hK, g1, g2, g3⟩
  · rename_i id sz off len cap ex
    rw [beq_eq] at h
    by_cases c1 : sz = e.size
    case neg => simp [c1] at h
    subst c1
    simp only [decide_true, cond_true] at h
    split at h
    case h_2 => exact h.elim
    rename_i blk hg
    rw [beq_eq] at h
    by_cases c2 : blk.sz = e.size
    case neg => simp [c2] at h
    simp only [c2, decide_true, cond_true] at h
    obtain ⟨bsz, rows, bmp⟩ := blk
    simp only at c2 h
    subst c2
    cases ex
    · obtain ⟨⟨q1, q2, q3⟩, hK⟩ := h
      have hset : ∀ X' : List (List AV), ∀ id', (((H.set id (some ⟨e.size, X', none⟩)).set id none).push ⟨e.size, rows.drop off ++ X, none⟩).get id' = ((H.set id none).push ⟨e.size, rows.drop off ++ X, none⟩).get id' := fun X' id' => by
        rw [Hp.get_push, Hp.get_push, Hp.get_set, Hp.get_set, Hp.get_set]
        show (if H.next = id' then _ else _) = (if H.next = id' then _ else _)
        split
        · rfl
        · split <;> rfl
      have hdl : (rows.drop off).length = len := by simp; omega
      cases hs with
      | hnil _ _ _ _ hsn hN =>
        have hrows : rows = [] := by
          rcases (hw.own id _ hg).2 with ⟨h1, _⟩ | ⟨b, o, h1, _⟩
          · exact h1
          · rw [hsn] at h1; cases h1
        subst hrows
        obtain ⟨g1, g2⟩ := kill_rel (n0 := H.next) hw id (Nat.le_refl _)
        by_cases h0 : X.length = 0
        · obtain rfl := hXe h0
          obtain rfl : X = [] := List.eq_nil_of_length_eq_zero h0
          obtain ⟨g3, g4⟩ := phantom_rel g2 e.size
          refine ⟨_, _, w, σ.up H.next none, _, run_app_room (ty := ty) ht hu hk none 0 0 _ 0 ⟨A, c, rfl⟩ [] hfx (Nat.le_refl _) w rfl, hK, ?_, ?_, .hnil _ _ _ _ (Sg.up_same ..) (Nat.lt_succ_self _)⟩
          · simp only [List.drop_nil, List.append_nil]; exact g1.trans g3
          · simp only [List.drop_nil, List.append_nil]; exact g4
        · obtain ⟨z, hz, hrun⟩ := run_app_grow (ty := ty) ht hu hk none 0 0 (.slice A X.length c) X.length ⟨A, c, rfl⟩ news [] hfx' (run_firstCells_none ..) (by omega) (by rw [Nat.zero_add]; first | exact hb | (rw [Nat.zero_add] at q3; exact q3)) (by omega)
          obtain ⟨σ', g3, g4, g5⟩ := grow_rel g2 ([].drop off ++ X) [] news z e.size 0 X.length [] X (by simp) rfl rfl (appCap w (0 + X.length) 0 el) el (appCap_max _ _ _ _ (by omega)) (appCap_ge _ _ _ _) (by rw [← c0, ← hz]; simp) (by simp) hnl (fun i row hr => by simp at hr) (fun i row hr => ⟨(hXr i row hr).1, fun j y hy => g1.ar hw ((hXr i row hr).2 j y hy)⟩)
          exact ⟨_, _, _, σ', _, hrun, hK, g1.trans g3, g4, g5⟩
      | hsl _ _ _ _ _ _ A' b o c' hsi hN hl hc hxx hm hA hA0 room =>
        obtain ⟨cs, el2, hb, hroomsz⟩ := room
        have hat : At H.next σ F w ⟨e.size, rows, bmp⟩ b o ∨ (rows = [] ∧ σ id = none ∧ bmp = none) := by
          rcases (hw.own id _ hg).2 with h1 | ⟨b', o', h1, h2⟩
          · exact .inr h1
          · rw [hsi] at h1; cases h1; exact .inl h2
        rcases hat with hat | ⟨_, hno, _⟩
        case inr => rw [hsi] at hno; cases hno
        by_cases hr : len + X.length ≤ c'
        · -- in its place
          have hst : ∃ w', (match A' with | some a => storeCells (a.add (len * e.size)) news | none => pure () : Sem Unit).run P w = .ok () w' ∧
              Ext H.next σ F H w σ F (H.set id (some ⟨e.size, rows ++ X, none⟩)) w' ∧ WR σ F (H.set id (some ⟨e.size, rows ++ X, none⟩)) w' ∧ (∃ cs' el', w'.heap[b]? = some (.cells cs' el' (0, 0)) ∧ o + (off + c') * e.size ≤ cs'.size) ∧ At H.next σ F w' ⟨e.size, rows ++ X, none⟩ b o := by
            obtain ⟨k2, _, k3⟩ := hat.cells' hb
            have hfit : o + rows.length * e.size + news.length ≤ cs.size := by
              have : (off + (len + X.length)) * e.size ≤ (off + c') * e.size := Nat.mul_le_mul_right _ (by omega)
              have e1 : (off + (len + X.length)) * e.size = rows.length * e.size + X.length * e.size := by rw [← Nat.add_mul]; congr 1; omega
              omega
            obtain ⟨g1, g2⟩ := rows_write hw hg hsi hb k3 rows.length X news hnl hXr (rows ++ X) (fun i => by
              by_cases a1 : i < rows.length
              · rw [if_pos a1, List.getElem?_append_left a1]
              · rw [if_neg a1]
                by_cases a2 : i < rows.length + X.length
                · rw [if_pos a2, List.getElem?_append_right (by omega)]
                · rw [if_neg a2, if_pos (by simp; omega), List.getElem?_eq_none (by simp; omega)]) (Nat.le_refl _) hfit (by simp [Nat.add_mul]; omega)
            have hwb : (w.setRow b (cs.toList.take (o + rows.length * e.size) ++ news ++ cs.toList.drop (o + rows.length * e.size + news.length)).toArray).heap[b]? = some (.cells (cs.toList.take (o + rows.length * e.size) ++ news ++ cs.toList.drop (o + rows.length * e.size + news.length)).toArray el2 (0, 0)) := setRow_heap w b _ _ _ _ hb
            refine ⟨_, ?_, g1, g2, ⟨_, _, hwb, by simp; omega⟩, ?_⟩
            · by_cases h0 : X.length = 0
              · obtain rfl := hXe h0
                have hself : w.setRow b (cs.toList.take (o + rows.length * e.size) ++ [] ++ cs.toList.drop (o + rows.length * e.size + ([] : List Value).length)).toArray = w := by
                  simp only [List.append_nil, List.length_nil, Nat.add_zero, List.take_append_drop, Array.toArray_toList]
                  exact setRow_self w b _ _ _ hb
                rw [hself]
                cases A' <;> rfl
              · have hA'' := hA (by omega)
                subst hA''
                have hst := run_storeCells_at (P := P) b (o + rows.length * e.size) el2 news 0 cs w hb (by omega) (news_one hnl hXr q2)
                simp only [Nat.add_zero] at hst
                simp only [addr_add]
                rw [show o + off * e.size + len * e.size = o + rows.length * e.size by rw [Nat.add_assoc, ← Nat.add_mul, q1]]
                exact hst
            · rcases (g2.own id _ (by rw [Hp.get_set, if_pos rfl])).2 with ⟨h1, h2, _⟩ | ⟨b', o', h1, h2⟩
              · rw [hsi] at h2; cases h2
              · rw [hsi] at h1; cases h1; exact h2
          obtain ⟨w', hst1, hE, hW, ⟨cs', el', hb', hroom'⟩, hat'⟩ := hst
          have hrun := run_app_room (ty := ty) ht hu hk A' len c' (.slice A X.length c) X.length ⟨A, c, rfl⟩ news hfx hr w' hst1
          obtain ⟨g3, g4⟩ := move_rel hW (by rw [Hp.get_set, if_pos rfl]) hsi off (by simp; omega) (.inr ⟨hat', cs', el', hb'⟩)
          have hdrop : (rows ++ X).drop off = rows.drop off ++ X := by rw [List.drop_append_of_le_length (by omega)]
          simp only [hdrop] at g3 g4
          have hnx : (H.set id (some ⟨e.size, rows ++ X, none⟩)).next = H.next := rfl
          refine ⟨_, _, w', _, _, hrun, hK, (hE.trans g3).congr rfl (fun i => (hset _ i).symm), g4.congr rfl (fun i => (hset _ i).symm), ?_⟩
          refine .hsl _ _ _ _ _ _ A' b (o + off * e.size) c' (Sg.up_same ..) (Nat.lt_succ_self _) (Nat.le_refl _) hr (fun h => by cases h) hm (fun hp => by rw [hA hp]; simp) hA0 ⟨cs', el', hb', ?_⟩
          rw [Nat.add_mul] at hroom'
          simp only [Nat.zero_add]; omega
        · -- in a new place
          obtain ⟨k2, kmp, k3⟩ := hat.cells' hb
          simp only at kmp
          obtain ⟨olds, hol, hfo, hor⟩ : ∃ olds : List Value, olds.length = len * e.size ∧ (Builtin.firstCells e.size len (.slice A' len c')).run P w.drew = .ok olds.toArray w.drew ∧
              (∀ i row, (rows.drop off)[i]? = some row → row.length = e.size ∧ ∀ j y, row[j]? = some y → AR H.next σ F w y (olds.getD (i * e.size + j) undef)) := by
            have hro : rowsOf H e.size (.hsl id e.size off len cap false) = some ((rows.drop off).take len) := by
              simp only [rowsOf, hg, beq_eq, ble_eq]
              simp [show off + len ≤ rows.length by omega]
            obtain ⟨A2, c3, olds, hv, ho, hf, hr2, _⟩ := rowsOf_sound (P := P) hw (.hsl id e.size off len cap false A' b o c' hsi hN hl hc hxx hm hA hA0 ⟨cs, el2, hb, hroomsz⟩) hro
            have htk : (rows.drop off).take len = rows.drop off := List.take_of_length_le (by omega)
            rw [htk] at ho hf hr2 hv
            rw [hdl] at ho hf hv
            injection hv with e1 e2 e3
            subst e1; subst e3
            exact ⟨olds, ho, hf _, hr2⟩
          obtain ⟨z, hz, hrun⟩ := run_app_grow (ty := ty) ht hu hk A' len c' (.slice A X.length c) X.length ⟨A, c, rfl⟩ news olds hfx' hfo (by omega) q3 (bnd _ q3)
          obtain ⟨g1, g2⟩ := kill_rel (n0 := H.next) hw id (Nat.le_refl _)
          obtain ⟨σ', g3, g4, g5⟩ := grow_rel g2 (rows.drop off ++ X) olds news z e.size len X.length (rows.drop off) X rfl hdl rfl (appCap w (len + X.length) c' el) el (appCap_max _ _ _ _ (bnd _ q3)) (appCap_ge _ _ _ _) (by rw [← c0, ← hz]; simp) hol hnl
            (fun i row hr => ⟨(hor i row hr).1, fun j y hy => g1.ar hw ((hor i row hr).2 j y hy)⟩) (fun i row hr => ⟨(hXr i row hr).1, fun j y hy => g1.ar hw ((hXr i row hr).2 j y hy)⟩)
          exact ⟨_, _, _, σ', _, hrun, hK, g1.trans g3, g4, g5⟩
    · -- a slice whose capacity is known
      rw [onB_eq, ble_eq] at h
      by_cases hfits : len + X.length ≤ cap
      · simp only [hfits, decide_true, if_true] at h
        obtain ⟨⟨q1, q2⟩, hK⟩ := h
        have hol := over_len rows (off + len) X (by omega)
        have hself : bmp = none → X = [] → ∀ i, (H.set id (some ⟨e.size, overRows rows (off + len) X, none⟩)).get i = H.get i := fun hb0 hX0 i => by
          subst hX0; subst hb0
          rw [Hp.get_set]
          by_cases ci : id = i
          · subst ci; rw [if_pos rfl, hg]; simp [overRows]
          · rw [if_neg ci]
        cases hs with
        | hnil _ _ _ _ hsn hN =>
          obtain rfl : X = [] := List.eq_nil_of_length_eq_zero (by omega)
          obtain rfl := hXe rfl
          have hbn : bmp = none := by
            rcases (hw.own id _ hg).2 with ⟨_, _, h1⟩ | ⟨b, o, h1, _⟩
            · exact h1
            · rw [hsn] at h1; cases h1
          exact ⟨_, _, w, σ, _, run_app_room (ty := ty) ht hu hk none 0 0 _ 0 ⟨A, c, rfl⟩ [] hfx (Nat.le_refl _) w rfl, hK, (Ext.refl (Nat.le_refl _)).congr rfl (hself hbn rfl), hw.congr rfl (hself hbn rfl), .hnil _ _ _ _ hsn hN⟩
        | hsl _ _ _ _ _ _ A' b o c' hsi hN hl hc hxx hm hA hA0 room =>
          obtain ⟨cs, el2, hb, hroomsz⟩ := room
          have hcc := hxx rfl
          rcases (hw.own id _ hg).2 with ⟨_, h1, _⟩ | ⟨b', o', h1, hat⟩
          · rw [hsi] at h1; cases h1
          rw [hsi] at h1; cases h1
          obtain ⟨k2, kmp, k3⟩ := hat.cells' hb
          simp only at kmp
          simp only at k2 k3
          have e1 : (off + len) * e.size + X.length * e.size = (off + len + X.length) * e.size := by rw [← Nat.add_mul]
          have e2 : (off + len + X.length) * e.size ≤ rows.length * e.size := Nat.mul_le_mul_right _ (by omega)
          obtain ⟨g1, g2⟩ := rows_write hw hg hsi hb k3 (off + len) X news hnl hXr (overRows rows (off + len) X) (fun i => by
            rw [over_get _ _ _ (by omega)]
            split
            · rfl
            · split
              · rfl
              · split
                · rename_i hge; rw [hol] at hge; exact List.getElem?_eq_none hge
                · rfl) (by simp; omega) (by simp only at *; omega) (by rw [hol]; exact k2)
          simp only at g1 g2
          refine ⟨_, _, w.setRow b (cs.toList.take (o + (off + len) * e.size) ++ news ++ cs.toList.drop (o + (off + len) * e.size + news.length)).toArray, σ, _, run_app_room (ty := ty) ht hu hk A' len c' (.slice A X.length c) X.length ⟨A, c, rfl⟩ news hfx (by omega) _ ?_, hK, g1, g2, ?_⟩
          · by_cases h0 : X.length = 0
            · obtain rfl := hXe h0
              have hself : w.setRow b (cs.toList.take (o + (off + len) * e.size) ++ [] ++ cs.toList.drop (o + (off + len) * e.size + ([] : List Value).length)).toArray = w := by
                simp only [List.append_nil, List.length_nil, Nat.add_zero, List.take_append_drop, Array.toArray_toList]
                exact setRow_self w b _ _ _ hb
              rw [hself]
              cases A' <;> rfl
            · have hA'' := hA (by omega)
              subst hA''
              have hst := run_storeCells_at (P := P) b (o + (off + len) * e.size) el2 news 0 cs w hb (by omega) (news_one hnl hXr q2)
              simp only [Nat.add_zero] at hst
              simp only [addr_add]
              rw [show o + off * e.size + len * e.size = o + (off + len) * e.size by rw [Nat.add_mul, Nat.add_assoc]]
              exact hst
          · exact .hsl _ _ _ _ _ _ A' b o c' hsi hN hfits hc (fun _ => hcc) hm hA hA0 ⟨_, _, setRow_heap w b _ _ _ _ hb, by simp; omega⟩
      · simp only [hfits, decide_false, Bool.false_eq_true, if_false] at h
        obtain ⟨⟨q1, q3⟩, hK⟩ := h
        have hro : rowsOf H e.size (.hsl id e.size off len cap true) = some ((rows.drop off).take len) := by
          simp only [rowsOf, hg, beq_eq, ble_eq]
          simp [q1]
        have hsv := hs
        obtain ⟨A2, c3, olds, rfl, ho, hf, hr2, _⟩ := rowsOf_sound (P := P) hw hs hro
        have htl : ((rows.drop off).take len).length = len := by simp; omega
        rw [htl] at ho hf hsv
        have hcap : c3 = cap := by
          rw [htl] at hs
          cases hs with
          | hnil => rfl
          | hsl _ _ _ _ _ _ A' b o c' hsi hN hl hc hxx => exact hxx rfl
        subst hcap
        rw [htl]
        obtain ⟨z, hz, hrun⟩ := run_app_grow (ty := ty) ht hu hk A2 len c3 (.slice A X.length c) X.length ⟨A, c, rfl⟩ news olds hfx' (hf _) (by omega) q3 (bnd _ q3)
        obtain ⟨σ', g3, g4, g5⟩ := grow_rel hw ((rows.drop off).take len ++ X) olds news z e.size len X.length ((rows.drop off).take len) X rfl htl rfl (appCap w (len + X.length) c3 el) el (appCap_max _ _ _ _ (bnd _ q3)) (appCap_ge _ _ _ _) (by rw [← c0, ← hz]; simp) ho hnl hr2 hXr
        exact ⟨_, _, _, σ', _, hrun, hK, g3, g4, g5⟩
  · exact h.elim

theorem evCopy_sound {ts : Array TypeId} {ty : TypeId} (hts : ts[0]? = some t) (hw : WR σ F H w) {d x : AV} {vd vx : Value} (hd : AR H.next σ F w d vd) (hx : AR H.next σ F w x vx) (h : evCopy P t d x H K) :
    ∃ y v w' H', (Builtin.copy_ ts ty #[vd, vx]).run P w = .ok v w' ∧ K y H' ∧ Ext H.next σ F H w σ F H' w' ∧ WR σ F H' w' ∧ AR H'.next σ F w' y v := by
  unfold evCopy at h
  split at h
  case h_2 => exact h.elim
  rename_i e he
  obtain ⟨el, ht, hk⟩ := elemSz_spec he
  split at h
  case h_2 => exact h.elim
  rename_i X hX
  obtain ⟨A, c, news, rfl, hnl, hfc, hXr, hXm⟩ := rowsOf_sound (P := P) hw hx hX
  have hfx : (Builtin.firstCells e.size X.length (.slice A X.length c)).run P w = .ok news.toArray w := hfc w.drawn
  have hXe : X.length = 0 → news = [] := fun h0 => List.eq_nil_of_length_eq_zero (by rw [hnl, h0]; simp)
  split at h
  case h_2 => exact h.elim
  rename_i id sz off len cap ex
  rw [beq_eq] at h
  by_cases c1 : sz = e.size
  case neg => simp [c1] at h
  subst c1
  simp only [decide_true, cond_true] at h
  split at h
  case h_2 => exact h.elim
  rename_i blk hg
  rw [beq_eq] at h
  by_cases c2 : blk.sz = e.size
  case neg => simp [c2] at h
  simp only [c2, decide_true, cond_true] at h
  obtain ⟨bsz, rows, bmp⟩ := blk
  simp only at c2 h
  subst c2
  obtain ⟨⟨q1, q2, q3⟩, hK⟩ := h
  have run : ∀ (A' : Option Addr) (c' : Nat) (w' : World), (match A' with | some a => storeCells a news | none => pure () : Sem Unit).run P w = .ok () w' →
      (Builtin.copy_ ts ty #[.slice A' len c', .slice A X.length c]).run P w = .ok (.int .i64 X.length) w' := fun A' c' w' hst => by
    have hmin : Nat.min X.length len = X.length := Nat.min_eq_left q3
    cases A' with
    | none =>
      simp only [Sem.run_pure] at hst
      injection hst with _ h2
      subst h2
      simp [Builtin.copy_, hts, run_underlying ht, run_size (w := w) hk, Builtin.lenOf, hmin, hfx, goInt]
    | some a => simp [Builtin.copy_, hts, run_underlying ht, run_size (w := w) hk, Builtin.lenOf, hmin, hfx, hst, goInt]
  have hol := over_len rows off X (by omega)
  cases hd with
  | hnil _ _ _ _ hsn hN =>
    obtain rfl : X = [] := List.eq_nil_of_length_eq_zero (by omega)
    obtain rfl := hXe rfl
    have hbn : bmp = none := by
      rcases (hw.own id _ hg).2 with ⟨_, _, h1⟩ | ⟨b, o, h1, _⟩
      · exact h1
      · rw [hsn] at h1; cases h1
    subst hbn
    have hself : ∀ i, (H.set id (some ⟨e.size, overRows rows off [], none⟩)).get i = H.get i := fun i => by
      rw [Hp.get_set]
      by_cases ci : id = i
      · subst ci; rw [if_pos rfl, hg]; simp [overRows]
      · rw [if_neg ci]
    exact ⟨_, _, w, _, run none 0 w rfl, hK, (Ext.refl (Nat.le_refl _)).congr rfl hself, hw.congr rfl hself, .val _⟩
  | hsl _ _ _ _ _ _ A' b o c' hsi hN hl hc hxx hm hA hA0 room =>
    obtain ⟨cs, el2, hb, hroomsz⟩ := room
    rcases (hw.own id _ hg).2 with ⟨_, h1, _⟩ | ⟨b', o', h1, hat⟩
    · rw [hsi] at h1; cases h1
    rw [hsi] at h1; cases h1
    obtain ⟨k2, kmp, k3⟩ := hat.cells' hb
    simp only at kmp
    simp only at k2 k3
    have e1 : off * e.size + X.length * e.size = (off + X.length) * e.size := by rw [← Nat.add_mul]
    have e2 : (off + X.length) * e.size ≤ rows.length * e.size := Nat.mul_le_mul_right _ (by omega)
    obtain ⟨g1, g2⟩ := rows_write hw hg hsi hb k3 off X news hnl hXr (overRows rows off X) (fun i => by
      rw [over_get _ _ _ (by omega)]
      split
      · rfl
      · split
        · rfl
        · split
          · rename_i hge; rw [hol] at hge; exact List.getElem?_eq_none hge
          · rfl) (by simp; omega) (by simp only at *; omega) (by rw [hol]; exact k2)
    simp only at g1 g2
    refine ⟨_, _, w.setRow b (cs.toList.take (o + off * e.size) ++ news ++ cs.toList.drop (o + off * e.size + news.length)).toArray, _, run A' c' _ ?_, hK, g1, g2, .val _⟩
    by_cases h0 : X.length = 0
    · obtain rfl := hXe h0
      have hself : w.setRow b (cs.toList.take (o + off * e.size) ++ [] ++ cs.toList.drop (o + off * e.size + ([] : List Value).length)).toArray = w := by
        simp only [List.append_nil, List.length_nil, Nat.add_zero, List.take_append_drop, Array.toArray_toList]
        exact setRow_self w b _ _ _ hb
      rw [hself]
      cases A' <;> rfl
    · have hA'' := hA (by omega)
      subst hA''
      have hst := run_storeCells_at (P := P) b (o + off * e.size) el2 news 0 cs w hb (by omega) (news_one hnl hXr q2)
      simp only [Nat.add_zero] at hst
      exact hst
end
end
end Go.Proofs.YtdblhmpcilihnaaGreat.E

namespace Go.Proofs.YtdblhmpcilihnaaGreat.E
open Go
noncomputable section
set_option linter.unusedVariables false
set_option linter.unusedSimpArgs false
section
variable {P : Program} {N n0 : Nat} {σ σ' : Sg} {F F' : Nat → Prop} {H H' H1 H2 : Hp} {w w' : World} {fr : Fr} {t u : TypeId} {k : Kd} {K : AV → Hp → Prop}

def fndI (n : Int) : List MapEntry → Nat → Option (Nat × Value)
  | [], _ => none
  | e :: es, i => match e.key with
    | .int _ m => if n = m then some (i, e.val) else fndI n es (i + 1)
    | _ => fndI n es (i + 1)
theorem findNow_int {kk k : IntKind} {n : Int} : ∀ (es : List MapEntry) (i : Nat), (∀ e ∈ es, ∃ m, e.key = .int k m) → Instr.findNow (.int kk) (.int k n) es i = some (fndI n es i)
  | [], i, _ => rfl
  | e :: es, i, h => by
    obtain ⟨m, hm⟩ := h e (List.mem_cons_self ..)
    have ih := findNow_int (kk := kk) (n := n) es (i + 1) fun e he => h e (List.mem_cons_of_mem _ he)
    simp only [Instr.findNow, hm, Instr.sameNow, if_true, fndI]
    by_cases c : n = m
    · subst c; simp
    · have : (n == m) = false := by simp [c]
      rw [this, if_neg c]
      simpa using ih
theorem checkKey_int {key : TypeId} {kk k : IntKind} {n : Int} (h : P.underlying key = some (.int kk)) (b : Bool) (d : Nat) : (Instr.checkKey b (d + 1) key (.int k n)).run P w = .ok () w := by
  simp [Instr.checkKey, run_underlying h]
theorem run_checkKey {key : TypeId} {kk k : IntKind} {n : Int} (h : P.underlying key = some (.int kk)) (b : Bool) : (Instr.checkKey b 10000 key (.int k n)).run P w = .ok () w := checkKey_int h b 9999
theorem run_findKey {key : TypeId} {kk k : IntKind} {n : Int} (h : P.underlying key = some (.int kk)) {es : List MapEntry} (hes : ∀ e ∈ es, ∃ m, e.key = .int k m) : (Instr.findKey key (.int k n) es).run P w = .ok (fndI n es 0) w := by
  simp [Instr.findKey, run_underlying h, findNow_int es 0 hes]
theorem fnd_lk {ki : IntKind} {n : Int} : ∀ (es : List MapEntry) (i : Nat), (∀ e ∈ es, ∃ m v, e.key = .int ki m ∧ e.val = .bool v) → (fndI n es i = none ∧ lkB n es = false) ∨ ∃ j v, fndI n es i = some (i + j, .bool v) ∧ lkB n es = v ∧ ∃ e, es[j]? = some e ∧ (∃ kk, e.key = .int kk n) ∧ ∀ q e', q < j → es[q]? = some e' → ∃ kk m, e'.key = .int kk m ∧ m ≠ n
  | [], i, _ => .inl ⟨rfl, rfl⟩
  | e :: es, i, h => by
    obtain ⟨m, v, hm, hv⟩ := h e (List.mem_cons_self ..)
    simp only [fndI, lkB, hm, hv]
    by_cases c : n = m
    · subst c
      exact .inr ⟨0, v, by simp, by simp, e, rfl, ⟨_, hm⟩, fun q e' hq => by omega⟩
    · rw [if_neg c, if_neg (Ne.symm c)]
      rcases fnd_lk es (i + 1) fun e he => h e (List.mem_cons_of_mem _ he) with h1 | ⟨j, v', h1, h2, e', h3, h4, h5⟩
      · exact .inl h1
      · refine .inr ⟨j + 1, v', by rw [h1]; congr 2; omega, h2, e', by simpa using h3, h4, fun q e2 hq he2 => ?_⟩
        cases q with
        | zero => simp at he2; subst he2; exact ⟨_, m, hm, Ne.symm c⟩
        | succ q => exact h5 q e2 (by omega) (by simpa using he2)
theorem lk_append {n z : Int} {e : MapEntry} {k : IntKind} {v : Bool} (he : e.key = .int k n) (hv : e.val = .bool v) : ∀ (es : List MapEntry), (∀ e ∈ es, ∃ m v, e.key = .int k m ∧ e.val = .bool v) → (∀ e ∈ es, ∀ kk, e.key ≠ .int kk n) → lkB z (es ++ [e]) = if z = n then v else lkB z es
  | [], _, _ => by simp only [List.nil_append, lkB, he, hv]; by_cases c : n = z <;> simp [c, Ne.symm, eq_comm]
  | e' :: es, h, hn => by
    obtain ⟨m, v', hm, hv'⟩ := h e' (List.mem_cons_self ..)
    have ih := lk_append (z := z) he hv es (fun e he => h e (List.mem_cons_of_mem _ he)) (fun e he => hn e (List.mem_cons_of_mem _ he))
    simp only [List.cons_append, lkB, hm, hv']
    by_cases c : m = z
    · subst c
      rw [if_pos rfl, if_pos rfl, if_neg]
      rintro rfl
      exact hn e' (List.mem_cons_self ..) _ hm
    · rw [if_neg c, if_neg c]; exact ih
theorem lk_modify {n z : Int} {k : IntKind} {v : Bool} : ∀ (es : List MapEntry) (j : Nat) (e : MapEntry), (∀ e ∈ es, ∃ m v, e.key = .int k m ∧ e.val = .bool v) → es[j]? = some e → (∃ kk, e.key = .int kk n) → (∀ q e', q < j → es[q]? = some e' → ∃ kk m, e'.key = .int kk m ∧ m ≠ n) →
    lkB z (es.modify j fun e => { e with key := .int k n, val := .bool v }) = if z = n then v else lkB z es
  | [], j, e, _, h, _, _ => by simp at h
  | e' :: es, 0, e, h, hj, hk, _ => by
    simp only [List.getElem?_cons_zero, Option.some.injEq] at hj; subst hj
    obtain ⟨kk, hk⟩ := hk
    obtain ⟨m, v', hm, hv'⟩ := h e' (List.mem_cons_self ..)
    rw [hk] at hm; cases hm
    simp only [List.modify_zero_cons, lkB, hk, hv']
    by_cases c : n = z
    · subst c; simp
    · rw [if_neg c, if_neg c, if_neg (Ne.symm c)]
  | e' :: es, j + 1, e, h, hj, hk, hb => by
    obtain ⟨m, v', hm, hv'⟩ := h e' (List.mem_cons_self ..)
    have ih := lk_modify (z := z) (v := v) es j e (fun e he => h e (List.mem_cons_of_mem _ he)) (by simpa using hj) hk (fun q e2 hq he2 => hb (q + 1) e2 (by omega) (by simpa using he2))
    obtain ⟨kk, m', hm', hne⟩ := hb 0 e' (by omega) rfl
    rw [hm] at hm'; cases hm'
    simp only [List.modify_succ_cons, lkB, hm, hv']
    by_cases c : m = z
    · subst c; rw [if_pos rfl, if_pos rfl, if_neg hne]
    · rw [if_neg c, if_neg c]; exact ih

theorem mapOf_spec {d : TypeDesc} {e : Kd} (h : mapOf P t = some (d, e)) : ∃ key el, P.underlying t = some (.map key el) ∧ P.underlying key = some d ∧ kd P el = some e := by
  unfold mapOf at h
  split at h
  case h_2 => cases h
  rename_i k0 hk
  obtain ⟨i, z, hi, hd, _⟩ := kd_spec hk
  split at h
  case h_2 => cases h
  rename_i key el hdesc
  split at h
  case h_2 => cases h
  rename_i kk ke h1 h2
  cases h
  obtain ⟨_, _, _, hd2, _⟩ := kd_spec h1
  exact ⟨key, el, by rw [hd, hdesc], hd2, h2⟩

theorem mp_at (hw : WR σ F H w) {id b : Nat} {blk : Blk} {m : MB} (hg : H.get id = some blk) (hm : blk.mp = some m) (hs : σ id = some (b, 0)) : MAt H.next σ F w m b := by
  rcases (hw.own id blk hg).2 with ⟨_, _, h1⟩ | ⟨b', o, h1, h2⟩
  · rw [hm] at h1; cases h1
  · rw [hs] at h1; cases h1
    rcases h2.ex with ⟨_, _, _, _, h3, _⟩ | ⟨_, _, m', h3, h4⟩
    · rw [hm] at h3; cases h3
    · rw [hm] at h3; cases h3; exact h4

theorem evUp_sound (hw : WR σ F H w) {m kx x : AV} {um uk ux : Value} (hm : AR H.next σ F w m um) (hk : AR H.next σ F w kx uk) (hx : AR H.next σ F w x ux) {H' : Hp} (h : evUp P t H m kx x = some H') :
    ∃ w', (Instr.mapUpdate t um uk ux).run P w = .ok () w' ∧ Ext H.next σ F H w σ F H' w' ∧ WR σ F H' w' := by
  unfold evUp at h
  split at h
  case h_2 => cases h
  rename_i kk0 e0 hmo
  obtain ⟨key, el, hu, hkey, hke⟩ := mapOf_spec hmo
  split at h
  case h_2 => cases h
  rename_i id
  split at h
  case h_2 => cases h
  rename_i blk hg
  cases hm with
  | mp _ b hs hN =>
    split at h
    · rename_i kk p hmp
      split at h
      case h_2 => cases h
      rename_i k' n v
      cases hk; cases hx
      by_cases c : k' = kk
      case neg => simp [c] at h
      subst c
      simp only [decide_true, cond_true, Option.some.injEq] at h; subst h
      obtain ⟨es, clock, hb, h1, h2⟩ := mp_at hw hg hmp hs
      have hfk := run_findKey (w := w) (n := n) hkey (es := es.toList) fun e he => by obtain ⟨m, v, h, _⟩ := h1 e he; exact ⟨m, h⟩
      rcases fnd_lk (n := n) es.toList 0 h1 with ⟨g1, g2⟩ | ⟨j, v', g1, g2, e, g3, g4, g5⟩
      · rw [g1] at hfk
        have hnew := mwrite_rel (es2 := es.push { key := .int k' n, val := .bool v, born := clock }) (c2 := clock + 1) hw hg hs hb (.bset k' fun z => bif decide (z = n) then v else p z) (fun w' hb' _ => ⟨_, _, hb', fun e he => by
          simp only [Array.toList_push, List.mem_append, List.mem_singleton] at he
          rcases he with he | rfl
          · exact h1 e he
          · exact ⟨n, v, rfl, rfl⟩, fun z => by
          rw [Array.toList_push, lk_append rfl rfl es.toList h1 (fun e he kk hc => ?_), ← h2 z]
          · by_cases c : z = n <;> simp [c]
          · have : ∀ (l : List MapEntry) (i : Nat), e ∈ l → fndI n l i ≠ none := fun l => by
              induction l with
              | nil => intro i h; cases h
              | cons a l ih =>
                intro i hm
                simp only [fndI]
                rcases List.mem_cons.1 hm with rfl | hm
                · rw [hc]; simp
                · split
                  · split
                    · simp
                    · exact ih _ hm
                  · exact ih _ hm
            exact this _ 0 he g1⟩)
        refine ⟨_, ?_, hnew⟩
        simp [Instr.mapUpdate, run_underlying hu, getObj, Sem.run, hb, run_checkKey (w := w) hkey, hfk, setObj]
      · rw [g1, Nat.zero_add] at hfk
        obtain ⟨kk2, g4'⟩ := g4
        have hje : es[j]? = some e := by rw [← Array.getElem?_toList]; exact g3
        have hkk : e.key = .int k' n := by
          obtain ⟨m, v2, h3, _⟩ := h1 e (List.mem_of_getElem? g3)
          rw [g4'] at h3; cases h3; exact g4'
        have hnew := mwrite_rel (es2 := es.modify j fun e => { e with key := .int k' n, val := .bool v }) (c2 := clock) hw hg hs hb (.bset k' fun z => bif decide (z = n) then v else p z) (fun w' hb' _ => ⟨_, _, hb', fun e he => by
          rw [Array.toList_modify] at he
          obtain ⟨i, hi⟩ := List.mem_iff_getElem?.1 he
          rw [List.getElem?_modify] at hi
          cases hh : es.toList[i]? with
          | none => rw [hh] at hi; simp at hi
          | some e3 =>
            rw [hh] at hi
            by_cases c : j = i
            · simp [c] at hi; subst hi; exact ⟨n, v, rfl, rfl⟩
            · simp [c] at hi; subst hi; exact h1 _ (List.mem_of_getElem? hh), fun z => by
          rw [Array.toList_modify, lk_modify es.toList j e h1 g3 ⟨_, g4'⟩ g5, ← h2 z]
          by_cases c : z = n <;> simp [c]⟩)
        refine ⟨_, ?_, hnew⟩
        have hsb : Instr.sameBits 10000 (.int k' n) (.int k' n) = true := by simp [Instr.sameBits]
        simp [Instr.mapUpdate, run_underlying hu, getObj, Sem.run, hb, run_checkKey (w := w) hkey, hfk, setObj, hje, hkk, Instr.keyThatStays, hsb]
    · rename_i kk l hmp
      split at h
      case h_2 => cases h
      rename_i k' n
      cases hk
      cases hc : ((decide (k' = kk) && l.all fun q => decide (q.1 ≠ n)) && x.one)
      case false => rw [hc] at h; cases h
      rw [hc] at h
      simp only [Bool.and_eq_true, decide_eq_true_eq, List.all_eq_true] at hc
      obtain ⟨⟨rfl, hno⟩, hone⟩ := hc
      simp only [cond_true, Option.some.injEq] at h; subst h
      obtain ⟨es, clock, hb, h1, h2⟩ := mp_at hw hg hmp hs
      have hkeys : ∀ e ∈ es.toList, ∃ m, e.key = .int k' m ∧ m ≠ n := fun e he => by
        obtain ⟨i, hi⟩ := List.mem_iff_getElem?.1 he
        rw [Array.getElem?_toList] at hi
        have hlt := (Array.getElem?_eq_some_iff.1 hi).1
        obtain ⟨e', g1, g2, _⟩ := h2 i l[i] (List.getElem?_eq_getElem (by omega))
        rw [hi] at g1; cases g1
        exact ⟨_, g2, hno _ (List.getElem_mem _)⟩
      have hfk := run_findKey (w := w) (n := n) hkey (es := es.toList) fun e he => by obtain ⟨m, h, _⟩ := hkeys e he; exact ⟨m, h⟩
      have hnone : fndI n es.toList 0 = none := by
        have : ∀ (l : List MapEntry) (i : Nat), (∀ e ∈ l, ∃ m, e.key = .int k' m ∧ m ≠ n) → fndI n l i = none := fun l => by
          induction l with
          | nil => intro i _; rfl
          | cons a l ih =>
            intro i hl
            obtain ⟨m, hm, hne⟩ := hl a (List.mem_cons_self ..)
            simp only [fndI, hm]
            rw [if_neg (Ne.symm hne)]
            exact ih _ fun e he => hl e (List.mem_cons_of_mem _ he)
        exact this _ 0 hkeys
      rw [hnone] at hfk
      have hnew := mwrite_rel (es2 := es.push { key := .int k' n, val := ux, born := clock }) (c2 := clock + 1) hw hg hs hb (.tab k' (l ++ [(n, x)])) (fun w' hb' har => ⟨_, _, hb', by simp [h1], fun i q hq => by
        rw [List.getElem?_append] at hq
        by_cases ci : i < l.length
        · rw [if_pos ci] at hq
          obtain ⟨e, g1, g2, g3⟩ := h2 i q hq
          refine ⟨e, ?_, g2, har _ _ g3⟩
          rw [Array.getElem?_push, if_neg (by omega)]; exact g1
        · rw [if_neg ci] at hq
          have hi0 : i - l.length = 0 := by
            rcases Nat.eq_zero_or_pos (i - l.length) with h | h
            · exact h
            · rw [List.getElem?_eq_none (by simp; omega)] at hq; cases hq
          rw [hi0] at hq
          simp only [List.getElem?_cons_zero, Option.some.injEq] at hq
          subst hq
          refine ⟨_, by rw [Array.getElem?_push, if_pos (by omega)], rfl, har _ _ hx⟩⟩)
      refine ⟨_, ?_, hnew⟩
      simp [Instr.mapUpdate, run_underlying hu, getObj, Sem.run, hb, run_checkKey (w := w) hkey, hfk, setObj]
    · cases h

theorem evTab_sound {K : AV → Prop} {ok : Bool} {z : AV} {zu : Value} {n : Int} {ki : IntKind} (hz : AR N σ F w z zu) : ∀ (l : List (Int × AV)) (es : List MapEntry) (i : Nat), es.length = l.length →
    (∀ (j : Nat) (q : Int × AV), l[j]? = some q → ∃ e, es[j]? = some e ∧ e.key = .int ki q.1 ∧ AR N σ F w q.2 e.val) → evTab K ok z n l →
    ∃ y, K y ∧ ((fndI n es i = none ∧ AR N σ F w y (if ok then .tuple #[zu, .bool false] else zu)) ∨ ∃ j v, fndI n es i = some (j, v) ∧ AR N σ F w y (if ok then .tuple #[v, .bool true] else v))
  | [], es, i, hl, h, hk => by
    obtain rfl : es = [] := List.eq_nil_of_length_eq_zero (by simpa using hl)
    refine ⟨_, hk, .inl ⟨rfl, ?_⟩⟩
    cases ok
    · exact hz
    · exact .tup _ _ rfl fun j x hx => by
        match j, hx with
        | 0, hx => simp at hx; subst hx; exact hz
        | 1, hx => simp at hx; subst hx; exact .val _
        | j + 2, hx => simp at hx
  | (m, x) :: l, es, i, hl, h, hk => by
    cases es with
    | nil => simp at hl
    | cons e es =>
      obtain ⟨e', g1, g2, g3⟩ := h 0 (m, x) rfl
      simp only [List.getElem?_cons_zero, Option.some.injEq] at g1; subst g1
      simp only [evTab, onB_eq] at hk
      by_cases c : n = m
      · simp only [c, decide_true, if_true] at hk
        refine ⟨_, hk, .inr ⟨i, e.val, by simp only [fndI, g2]; rw [if_pos c], ?_⟩⟩
        cases ok
        · exact g3
        · exact .tup _ _ rfl fun j x hx => by
            match j, hx with
            | 0, hx => simp at hx; subst hx; exact g3
            | 1, hx => simp at hx; subst hx; exact .val _
            | j + 2, hx => simp at hx
      · simp only [c, decide_false, Bool.false_eq_true, if_false] at hk
        obtain ⟨y, hy, hr⟩ := evTab_sound (ki := ki) hz l es (i + 1) (by simpa using hl) (fun j q hq => h (j + 1) q (by simpa using hq)) hk
        refine ⟨y, hy, ?_⟩
        simp only [fndI, g2]
        rw [if_neg c]
        exact hr

theorem evLook_sound (hw : WR σ F H w) {m kx : AV} {um uk : Value} {ok : Bool} (hm : AR H.next σ F w m um) (hk : AR H.next σ F w kx uk) (h : evLook P t H m kx ok K) :
    ∃ y v, (Instr.lookup t um uk ok).run P w = .ok v w ∧ K y H ∧ AR H.next σ F w y v := by
  unfold evLook at h
  split at h
  case h_2 => exact h.elim
  rename_i kk0 e0 hmo
  obtain ⟨key, el, hu, hkey, hke⟩ := mapOf_spec hmo
  have hzv := run_zv (w := w) hke
  split at h
  case h_2 => exact h.elim
  rename_i id
  split at h
  case h_2 => exact h.elim
  rename_i blk hg
  cases hm with
  | mp _ b hs hN =>
    split at h
    · rename_i kk p hmp
      split at h
      case h_2 => exact h.elim
      rename_i k' n hdesc
      cases hk
      by_cases c : k' = kk
      case neg => simp [c] at h
      subst c
      simp only [decide_true, cond_true] at h
      split at h
      case h_2 => exact h.elim
      rename_i hzz
      obtain ⟨es, clock, hb, h1, h2⟩ := mp_at hw hg hmp hs
      have hfk := run_findKey (w := w) (n := n) hkey (es := es.toList) fun e he => by obtain ⟨m, v, h, _⟩ := h1 e he; exact ⟨m, h⟩
      rw [hzz] at hzv
      rcases fnd_lk (n := n) es.toList 0 h1 with ⟨g1, g2⟩ | ⟨j, v', g1, g2, _⟩
      · rw [g1] at hfk
        refine ⟨_, .bool (p n), ?_, h, .val _⟩
        rw [h2 n, g2]
        simp [Instr.lookup, run_underlying hu, getObj, Sem.run, hb, run_checkKey (w := w) hkey, hfk, hzv]
      · rw [g1] at hfk
        refine ⟨_, .bool (p n), ?_, h, .val _⟩
        rw [h2 n, g2]
        simp [Instr.lookup, run_underlying hu, getObj, Sem.run, hb, run_checkKey (w := w) hkey, hfk]
    · rename_i kk l hmp
      split at h
      case h_2 => exact h.elim
      rename_i k' n z hz
      cases hk
      by_cases c : k' = kk
      case neg => simp [c] at h
      subst c
      simp only [decide_true, cond_true] at h
      obtain ⟨es, clock, hb, h1, h2⟩ := mp_at hw hg hmp hs
      have hkeys : ∀ e ∈ es.toList, ∃ m, e.key = .int k' m := fun e he => by
        obtain ⟨i, hi⟩ := List.mem_iff_getElem?.1 he
        rw [Array.getElem?_toList] at hi
        have hlt := (Array.getElem?_eq_some_iff.1 hi).1
        obtain ⟨e', g1, g2, _⟩ := h2 i l[i] (List.getElem?_eq_getElem (by omega))
        rw [hi] at g1; cases g1
        exact ⟨_, g2⟩
      have hfk := run_findKey (w := w) (n := n) hkey (es := es.toList) hkeys
      have hzr : AR H.next σ F w z e0.zv := by
        unfold zeroAV at hz
        split at hz
        · cases hz
        · cases hz; exact .val _
      obtain ⟨y, hy, hr⟩ := evTab_sound (ki := k') hzr l es.toList 0 (by simpa using h1) (fun j q hq => by simpa using h2 j q hq) h
      rcases hr with ⟨g1, g2⟩ | ⟨j, v, g1, g2⟩
      · rw [g1] at hfk
        refine ⟨y, _, ?_, hy, g2⟩
        simp [Instr.lookup, run_underlying hu, getObj, Sem.run, hb, run_checkKey (w := w) hkey, hfk, hzv]
      · rw [g1] at hfk
        refine ⟨y, _, ?_, hy, g2⟩
        simp [Instr.lookup, run_underlying hu, getObj, Sem.run, hb, run_checkKey (w := w) hkey, hfk]
    · exact h.elim
end
end
end Go.Proofs.YtdblhmpcilihnaaGreat.E

namespace Go.Proofs.YtdblhmpcilihnaaGreat.E
open Go
noncomputable section
set_option linter.unusedVariables false
set_option linter.unusedSimpArgs false

/-- What a call does with the engine's values. -/
structure ACalls (P : Program) (g : FuncId) (args : List AV) (H : Hp) (K : AV → Hp → Prop) : Prop where
  ok : ∃ fn, P.funcs[g]? = some fn ∧ fn.body.isNone = false ∧ (fn.name == "runtime.NumGoroutine") = false
  run : ∀ σ F w vs, WR σ F H w → Rs H.next σ F w args vs → Calls P g vs w fun e w' => ∃ v, e = .returned v ∧ ∃ x σ' F' H', K x H' ∧ Ext H.next σ F H w σ' F' H' w' ∧ WR σ' F' H' w' ∧ AR H'.next σ' F' w' x v

section
variable {P : Program} {N : Nat} {σ : Sg} {F : Nat → Prop} {H : Hp} {w : World} {fr : Fr} {t : TypeId} {k : Kd} {K : AV → Hp → Prop}

theorem Rs.append {cs ds : List AV} {us vs : Array Value} (h : Rs N σ F w cs us) (h' : Rs N σ F w ds vs) : Rs N σ F w (cs ++ ds) (us ++ vs) := by
  refine ⟨by simp [h.1, h'.1], fun i x hx => ?_⟩
  rw [List.getElem?_append] at hx
  have hs := h.1
  by_cases c : i < cs.length
  · rw [if_pos c] at hx
    have := h.2 i x hx
    have e : (us ++ vs).getD i undef = us.getD i undef := by
      simp only [Array.getD_eq_getD_getElem?]
      rw [Array.getElem?_append_left (by omega)]
    rw [e]; exact this
  · rw [if_neg c] at hx
    have := h'.2 _ x hx
    have e : (us ++ vs).getD i undef = vs.getD (i - cs.length) undef := by
      simp only [Array.getD_eq_getD_getElem?]
      rw [Array.getElem?_append_right (by omega), hs]
    rw [e]; exact this

theorem evLen_sound {x : AV} {u : Value} {ts : Array TypeId} {ty : TypeId} (ht : ts[0]? = some t) (hx : AR H.next σ F w x u) (h : evLen P t x H K) :
    ∃ y r, (Builtin.len_ ts ty #[u]).run P w = .ok r w ∧ K y H ∧ AR H.next σ F w y r := by
  unfold evLen at h
  split at h
  case h_2 => exact h.elim
  rename_i k hk
  have hu := run_und (w := w) hk
  split at h
  · rename_i e hdesc
    rw [hdesc] at hu
    split at h
    · rename_i sz n f
      cases hx with
      | sl _ _ _ _ hf =>
        cases hf with
        | sl _ _ _ A cc uu b off hc hA hl hu' hr =>
          unfold maxLen at hc
          exact ⟨_, _, by simp [Builtin.len_, ht, hu, goInt], h (by omega), .val _⟩
    · rename_i id sz off n cap ex
      cases hx with
      | hsl _ _ _ _ _ _ _ b o cc hs hN hl hc hxx hm =>
        unfold maxLen at hm
        exact ⟨_, _, by simp [Builtin.len_, ht, hu, goInt], h, .val _⟩
      | hnil => exact ⟨_, _, by simp [Builtin.len_, ht, hu, goInt], h, .val _⟩
    · cases hx
      exact ⟨_, _, by simp [Builtin.len_, ht, hu, goInt], h, .val _⟩
    · exact h.elim
  · exact h.elim

theorem val_wp {o : Oper} {a : Act} {w w' : World} {v : Value} {next : Act → World → Prop} {Q : Exit → Act → World → Prop} (h : (execOp a.eval o).run P w = .ok (.value v) w') (hn : next (a.put o.dst v) w') : o.wp P a w next Q := by
  unfold Oper.wp; rw [h]; exact hn

theorem asK_some {H : Hp} {z : Option AV} (h : asK K H z) : ∃ x, z = some x ∧ K x H := by
  cases z with
  | none => exact h.elim
  | some x => exact ⟨x, rfl, h⟩

theorem run_equal_nil {e : TypeId} (hd : P.underlying t = some (.slice e)) (A : Option Addr) (n c : Nat) : (Op.equal t (.slice A n c) (.slice none 0 0)).run P w = .ok A.isNone w := by
  have key : ∀ d, (Op.equalIn (d + 1) t (.slice A n c) (.slice none 0 0)).run P w = .ok A.isNone w := fun d => by
    cases A <;> simp [Op.equalIn, run_underlying hd]
  exact key 9999
theorem evNil_sound {op : BinOp} {s : Bool} (hop : (op = .eql ∧ s = true) ∨ (op = .neq ∧ s = false)) {x : AV} {v : Value} (hx : AR H.next σ F w x v) {ox oy : Operand} {K : AV → Prop} (h : evNil P t s x K) :
    ∃ b, (do eqGuard op t ox oy v (.slice none 0 0); binOp op t v (.slice none 0 0) : Sem Value).run P w = .ok (.bool b) w ∧ K (.val (.bool b)) := by
  unfold evNil at h
  split at h
  case h_2 => exact h.elim
  rename_i k hk
  obtain ⟨i, z, hi, hd, hz, _, _, _, _⟩ := kd_spec hk
  split at h
  case h_2 => exact h.elim
  rename_i e hdesc
  rw [hdesc] at hd
  have run : ∀ (A : Option Addr) (n c : Nat), (do eqGuard op t ox oy (.slice A n c) (.slice none 0 0); binOp op t (.slice A n c) (.slice none 0 0) : Sem Value).run P w = .ok (.bool (if A.isNone then s else !s)) w := fun A n c => by
    have := run_equal_nil (w := w) hd A n c
    rcases hop with ⟨rfl, rfl⟩ | ⟨rfl, rfl⟩ <;> cases A <;> simp [eqGuard, binOp] at this ⊢ <;> simp [this]
  split at h
  · cases hx; exact ⟨_, run none 0 0, by simpa using h⟩
  · rename_i sz n f
    cases hx with
    | sl _ _ _ _ hh =>
      cases hh with
      | sl _ _ _ A c u b off hc hA =>
        by_cases c0 : 0 < n
        · obtain ⟨rfl, _⟩ := hA c0
          exact ⟨_, run _ _ _, by simpa using h.1 c0⟩
        · obtain ⟨h1, h2⟩ := h.2 (by omega)
          refine ⟨_, run A n c, ?_⟩
          cases hb : (if A.isNone then s else !s)
          · exact h2
          · exact h1
  · cases hx with
    | hnil => 
      obtain ⟨h1, h2⟩ := h.2 rfl
      refine ⟨_, run none 0 0, ?_⟩
      cases s
      · exact h2
      · exact h1
    | hsl _ _ _ _ _ _ A b o c hs hN hl hc hx' hm hA hA0 room =>
      rename_i id sz off len cap ex
      by_cases c0 : 0 < cap
      · obtain rfl := hA (by omega)
        exact ⟨_, run _ _ _, by simpa using h.1 c0⟩
      · obtain ⟨h1, h2⟩ := h.2 (by omega)
        refine ⟨_, run A _ c, ?_⟩
        cases hb : (if A.isNone then s else !s)
        · exact h2
        · exact h1
  · exact h.elim
theorem evOp_sound (hw : WR σ F H w) {a : Act} (hf : FrRel H.next σ F w fr a.tmps) {o : Oper} (h : evOp P (ACalls P) o.op fr H K) {next : Act → World → Prop} {Q : Exit → Act → World → Prop}
    (hn : ∀ x v σ' F' H' w', K x H' → Ext H.next σ F H w σ' F' H' w' → WR σ' F' H' w' → AR H'.next σ' F' w' x v → next (a.put o.dst v) w') : o.wp P a w next Q := by
  have neu : asK K H (evN P o.op fr H) → o.wp P a w next Q := fun h => by
    obtain ⟨x, hx, hk⟩ := asK_some h
    obtain ⟨v, hv, hr⟩ := evN_sound hw hf hx
    exact val_wp hv (hn x v σ F H w hk (Ext.refl (Nat.le_refl _)) hw hr)
  have neA : asA K H (evA P o.op fr H) → o.wp P a w next Q := fun h => by
    cases hz : evA P o.op fr H with
    | none => rw [hz] at h; exact h.elim
    | some z =>
      obtain ⟨c, x, b⟩ := z
      rw [hz] at h
      obtain ⟨v, w', σ', hr, hx, hw', har⟩ := evA_sound hw hf hz h.1
      exact val_wp hr (hn _ _ _ _ _ _ h.2 hx hw' har)
  have neC : asC K H (evC P o.op fr) → o.wp P a w next Q := fun h => by
    cases hz : evC P o.op fr with
    | none => rw [hz] at h; exact h.elim
    | some z =>
      obtain ⟨c, x⟩ := z
      rw [hz] at h
      obtain ⟨v, hr, har⟩ := evC_sound hf hz h.1
      exact val_wp hr (hn _ _ _ _ _ _ h.2 (Ext.refl (Nat.le_refl _)) hw har)
  cases ho : o.op with
  | binOp op t x y u =>
    rw [ho] at h neu
    rcases evBinK_cases P op t x y u fr H K with ⟨hy, s, hop, he⟩ | ⟨_, he⟩
    · replace h : evBinK P op t x y u fr H K := h
      rw [he] at h
      obtain ⟨b, hb, hk⟩ := evNil_sound (ox := x) (oy := y) hop (ev_rel hf x) h
      have hyv : a.eval y = .slice none 0 0 := by
        unfold isNilC at hy
        split at hy
        · rfl
        · cases hy
      have hr : (execOp a.eval o).run P w = .ok (.value (.bool b)) w := by
        unfold execOp; rw [ho]
        rw [← hyv] at hb
        exact run_val hb
      exact val_wp hr (hn _ _ σ F H w hk (Ext.refl (Nat.le_refl _)) hw (.val _))
    · replace h : evBinK P op t x y u fr H K := h
      rw [he] at h
      exact neu h
  | alloc t => exact neA (by rw [ho] at h ⊢; exact h)
  | box t x => exact neA (by rw [ho] at h ⊢; exact h)
  | buildSlice t n ps => exact neA (by rw [ho] at h ⊢; exact h)
  | makeSlice t l c => exact neA (by rw [ho] at h ⊢; exact h)
  | makeMap t r => exact neA (by rw [ho] at h ⊢; exact h)
  | mapUpdate t m k x =>
    rw [ho] at h; simp only [evOp] at h
    split at h
    case h_2 => exact h.elim
    rename_i H' hst
    obtain ⟨w', hr, hx, hw'⟩ := evUp_sound hw (ev_rel hf m) (ev_rel hf k) (ev_rel hf x) hst
    unfold Oper.wp
    have : (execOp a.eval o).run P w = .ok .skip w' := by
      unfold execOp; rw [ho]
      show (do Instr.mapUpdate t (a.eval m) (a.eval k) (a.eval x); pure .skip : Sem Next).run P w = _
      simp [hr]
    rw [this]
    exact hn _ _ _ _ _ _ h hx hw' (.junk _)
  | insert t m k x =>
    rw [ho] at h; simp only [evOp] at h
    split at h
    case h_2 => exact h.elim
    rename_i H' hst
    obtain ⟨w', hr, hx, hw'⟩ := evUp_sound hw (ev_rel hf m) (ev_rel hf k) (ev_rel hf x) hst
    unfold Oper.wp
    have : (execOp a.eval o).run P w = .ok .skip w' := by
      unfold execOp; rw [ho]
      show (do Instr.mapUpdate t (a.eval m) (a.eval k) (a.eval x); pure .skip : Sem Next).run P w = _
      simp [hr]
    rw [this]
    exact hn _ _ _ _ _ _ h hx hw' (.junk _)
  | lookup t m k ok =>
    rw [ho] at h; simp only [evOp] at h
    obtain ⟨y, v, hr, hK, hy⟩ := evLook_sound hw (ev_rel hf m) (ev_rel hf k) h
    refine val_wp ?_ (hn y v σ F H w hK (Ext.refl (Nat.le_refl _)) hw hy)
    unfold execOp; rw [ho]
    exact run_val hr
  | index t x i => exact neC (by rw [ho] at h ⊢; exact h)
  | slice t x l hh m => exact neC (by rw [ho] at h ⊢; exact h)
  | convert s d x => exact neC (by rw [ho] at h ⊢; exact h)
  | pick c p q =>
    rw [ho] at h; simp only [evOp] at h
    have hc := ev_rel hf c
    split at h
    case h_2 => exact h.elim
    rename_i b hb
    rw [hb] at hc
    have hce : a.eval c = .bool b := by generalize a.eval c = u at hc; cases hc; rfl
    refine val_wp (w' := w) (v := if b then a.eval p else a.eval q) (by
      unfold execOp; rw [ho]
      show (do pure (Next.value (if ← asBool (a.eval c) then a.eval p else a.eval q)) : Sem Next).run P w = _
      rw [hce]; simp [asBool]) ?_
    cases b
    · exact hn _ _ σ F H w h (Ext.refl (Nat.le_refl _)) hw (ev_rel hf q)
    · exact hn _ _ σ F H w h (Ext.refl (Nat.le_refl _)) hw (ev_rel hf p)
  | store t x y =>
    rw [ho] at h; simp only [evOp] at h
    split at h
    case h_2 => exact h.elim
    rename_i H' hst
    obtain ⟨w', hr, hx, hw'⟩ := evStore_sound hw (ev_rel hf x) (ev_rel hf y) hst
    unfold Oper.wp
    have : (execOp a.eval o).run P w = .ok .skip w' := by
      unfold execOp; rw [ho]
      show (do Instr.storeAt t (a.eval x) (a.eval y); pure .skip : Sem Next).run P w = _
      simp [hr]
    rw [this]
    exact hn _ _ _ _ _ _ h hx hw' (.junk _)
  | indexAddr t x ix => exact neC (by rw [ho] at h ⊢; exact h)
  | call c =>
    rw [ho] at h; simp only [evOp] at h
    obtain ⟨callee, args, argTypes⟩ := c
    split at h
    · split at h
      case h_2 => exact h.elim
      rename_i hcl _ _ x t ts hargs htys
      simp only at hcl hargs htys
      subst hcl
      obtain rfl : args = #[x] := by simpa using congrArg List.toArray hargs
      have ht : argTypes[0]? = some t := by rw [← Array.getElem?_toList, htys]; rfl
      obtain ⟨y, r, hr, hk, hy⟩ := evLen_sound (ty := o.type) ht (ev_rel hf x) h
      refine val_wp (v := r) (w' := w) ?_ (hn y r σ F H w hk (Ext.refl (Nat.le_refl _)) hw hy)
      unfold execOp; rw [ho]
      show (do let d ← resolve a.eval ⟨.builtin .len, #[x], argTypes⟩ o.type; invoke d.target d.args : Sem Next).run P w = _
      simp only [resolve, pure_bind, invoke, builtin]
      exact run_val (by simpa using hr)
    · split at h
      case h_2 => exact h.elim
      rename_i hcl _ _ s x t u hargs htys
      simp only at hcl hargs htys
      subst hcl
      obtain rfl : args = #[s, x] := by simpa using congrArg List.toArray hargs
      obtain rfl : argTypes = #[t, u] := by simpa using congrArg List.toArray htys
      obtain ⟨y, r, w', σ', H', hr, hk, hx', hw', hy⟩ := evAppend_sound (ty := o.type) hw (ev_rel hf s) (ev_rel hf x) h
      refine val_wp (v := r) (w' := w') ?_ (hn y r σ' F H' w' hk hx' hw' hy)
      unfold execOp; rw [ho]
      show (do let d ← resolve a.eval ⟨.builtin .append, #[s, x], #[t, u]⟩ o.type; invoke d.target d.args : Sem Next).run P w = _
      simp only [resolve, pure_bind, invoke, builtin]
      exact run_val (by simpa using hr)
    · split at h
      case h_2 => exact h.elim
      rename_i hcl _ _ s x t ts hargs htys
      simp only at hcl hargs htys
      subst hcl
      obtain rfl : args = #[s, x] := by simpa using congrArg List.toArray hargs
      have ht : argTypes[0]? = some t := by rw [← Array.getElem?_toList, htys]; rfl
      obtain ⟨y, r, w', H', hr, hk, hx', hw', hy⟩ := evCopy_sound (ty := o.type) ht hw (ev_rel hf s) (ev_rel hf x) h
      refine val_wp (v := r) (w' := w') ?_ (hn y r σ F H' w' hk hx' hw' hy)
      unfold execOp; rw [ho]
      show (do let d ← resolve a.eval ⟨.builtin .copy, #[s, x], argTypes⟩ o.type; invoke d.target d.args : Sem Next).run P w = _
      simp only [resolve, pure_bind, invoke, builtin]
      exact run_val (by simpa using hr)
    · exact neC (by rw [ho]; exact h)
    · exact neC (by rw [ho]; exact h)
    · rename_i f hcl
      simp only at hcl
      subst hcl
      split at h
      case h_2 => exact h.elim
      rename_i g first cap hg
      have hfv := ev_rel hf f
      rw [hg] at hfv
      obtain ⟨v1, v2, hev, hr1, hr2⟩ : ∃ v1 v2, a.eval f = .func (.func g) v1 v2 ∧ Rs H.next σ F w first v1 ∧ Rs H.next σ F w cap v2 := by
        generalize a.eval f = u at hfv
        cases hfv with
        | fn _ _ _ v1 v2 l1 l2 h1 h2 => exact ⟨v1, v2, rfl, ⟨l1, h1⟩, ⟨l2, h2⟩⟩
      obtain ⟨fn, hfn, hb, hnm⟩ := h.ok
      unfold Oper.wp
      have : (execOp a.eval o).run P w = .ok (.enter g (v1 ++ args.map a.eval ++ v2)) w := by
        unfold execOp; rw [ho]
        show (do let d ← resolve a.eval ⟨.value f, args, argTypes⟩ o.type; invoke d.target d.args : Sem Next).run P w = _
        simp only [resolve, hev, Deferred.ofValue, pure_bind, invoke, callFunc, Sem.run_bind, run_program, Result.andThen_ok, hfn, hnm, hb]
        rfl
      rw [this]
      show Calls P g _ w _
      refine (h.run σ F w _ hw ((hr1.append (evs_rel hf args)).append hr2)).mono ?_
      rintro e w' ⟨v, rfl, x, σ', F', H', hk, hx, hw', hr⟩
      exact hn x v σ' F' H' w' hk hx hw' hr
    · exact h.elim
  | _ => exact neu (by rw [ho] at h ⊢; exact h)
end
end
end Go.Proofs.YtdblhmpcilihnaaGreat.E

namespace Go.Proofs.YtdblhmpcilihnaaGreat.E
open Go
noncomputable section
set_option linter.unusedVariables false
set_option linter.unusedSimpArgs false

/-- What a concrete state has to do with the engine's, seen from the beginning of the call. -/
structure Beg where
  n0 : Nat
  σ : Sg
  F : Nat → Prop
  H : Hp
  w : World
  nt : Nat

def St (P : Program) (B : Beg) (fr : Fr) (H : Hp) (a : Act) (w : World) : Prop :=
  ∃ σ F, Ext B.n0 B.σ B.F B.H B.w σ F H w ∧ WR σ F H w ∧ FrRel H.next σ F w fr a.tmps ∧ a.tmps.size = B.nt ∧ a.defers = []

def Up (P : Program) (B : Beg) (Q : Exit → Fr → Hp → Prop) (e : Exit) (a : Act) (w : World) : Prop := ∃ fr H, Q e fr H ∧ St P B fr H a w

def dstOk (nt : Nat) (o : Oper) : Bool := match o.dst with | some d => Nat.blt d nt | none => true
theorem blt_lt {a b : Nat} (h : Nat.blt a b = true) : a < b := Nat.le_of_ble_eq_true h

section
variable {P : Program} {B : Beg} {fr : Fr} {H : Hp} {a : Act} {w : World} {Q : Exit → Fr → Hp → Prop}

theorem Act.put_size (a : Act) (d : Option Tmp) (v : Value) : (a.put d v).tmps.size = a.tmps.size := by cases d <;> simp [Act.put]
theorem Act.put_defers' (a : Act) (d : Option Tmp) (v : Value) : (a.put d v).defers = a.defers := by cases d <;> rfl

theorem FrRel.putO {N : Nat} {σ : Sg} {F : Nat → Prop} {x : AV} {v : Value} (h : FrRel N σ F w fr a.tmps) (hx : AR N σ F w x v) {o : Oper} (hd : dstOk a.tmps.size o = true) : FrRel N σ F w (Go.Proofs.YtdblhmpcilihnaaGreat.E.put fr o.dst x) (a.put o.dst v).tmps := by
  unfold dstOk at hd
  cases ho : o.dst with
  | none => exact h
  | some d => rw [ho] at hd; exact h.put hx d (blt_lt hd)

theorem guard_wanted {ops : Array Oper} {N : Nat} {σ : Sg} {F : Nat → Prop} (hf : FrRel N σ F w fr a.tmps) {o : Oper} {b : Bool} (h : guardOf ops fr o.guard = some b) : Region.wanted o (yielded ops a.tmps) = b := by
  unfold Region.wanted
  cases hg : o.guard with
  | none => rw [hg] at h; simp only [guardOf, Option.some.injEq] at h; exact h
  | some p =>
    obtain ⟨g, c⟩ := p
    rw [hg] at h
    simp only [guardOf] at h
    split at h
    case h_2 => cases h
    rename_i t ht
    split at h
    case h_3 => cases h
    case h_2 =>
      rename_i d hd
      have hr := hf t
      rw [hd] at hr
      have hy : yielded ops a.tmps g = none := by
        unfold yielded
        rw [ht]
        simp only [Option.bind_some]
        cases hh : a.tmps[t]? with
        | none => rfl
        | some u => rw [Array.getD_eq_getD_getElem?, hh] at hr; simp only [Option.getD_some] at hr; cases hr; rfl
      simp only [Option.some.injEq] at h
      simp only [hy]; rw [← h]; rfl
    rename_i d hd
    simp only [Option.some.injEq] at h
    have hr := hf t
    rw [hd] at hr
    have hv : a.tmps[t]? = some (.bool d) := by
      cases hh : a.tmps[t]? with
      | none => rw [Array.getD_eq_getD_getElem?, hh] at hr; cases hr
      | some u => rw [Array.getD_eq_getD_getElem?, hh] at hr; simp only [Option.getD_some] at hr; cases hr; rfl
    have hy : yielded ops a.tmps g = some d := by
      unfold yielded
      rw [ht]; simp [hv]
    simp only [hy]
    rw [← h]
    cases c <;> cases d <;> rfl

theorem evOps_sound {ops : Array Oper} : ∀ (l : List Oper) (k : Nat), (∀ j, l[j]? = ops[k + j]?) → (∀ o ∈ l, dstOk B.nt o = true) → ∀ (fr : Fr) (H : Hp) (a : Act) (w : World), evOps P (ACalls P) ops Q l fr H → St P B fr H a w →
    wpOps P ops (Up P B Q) (List.range' k l.length) a w
  | [], k, hl, hd, fr, H, a, w, h, hs => ⟨fr, H, h, hs⟩
  | o :: l, k, hl, hd, fr, H, a, w, h, hs => by
    have hk : ops[k]? = some o := by have := hl 0; simpa using this.symm
    have ih := evOps_sound l (k + 1) (fun j => by have := hl (j + 1); rw [List.getElem?_cons_succ] at this; rw [this]; congr 1; omega) (fun o ho => hd o (List.mem_cons_of_mem _ ho))
    have hdo := hd o (List.mem_cons_self ..)
    obtain ⟨σ, F, hx, hw, hf, hn, hde⟩ := hs
    rw [List.length_cons, List.range'_succ, wpOps_cons]
    unfold wpOp
    rw [hk]
    simp only
    simp only [evOps, onG_eq, force_eq] at h
    split at h
    · rename_i hg
      rw [guard_wanted hf hg, if_pos rfl]
      refine .inl (evOp_sound hw hf h fun x v σ' F' H' w' hk hx' hw' hr => ?_)
      refine ih _ _ _ _ hk ⟨σ', F', hx.trans (hx'.weak hx.n.2), hw', ?_, by rw [Act.put_size]; exact hn, by rw [Act.put_defers']; exact hde⟩
      exact (hf.ext hw hx').putO hr (by rw [hn]; exact hdo)
    · rename_i hg
      rw [guard_wanted hf hg]
      simp only [Bool.false_eq_true, if_false]
      exact ih _ _ _ _ h ⟨σ, F, hx, hw, hf.putO (.val undef) (by rw [hn]; exact hdo), by rw [Act.put_size]; exact hn, by rw [Act.put_defers']; exact hde⟩
    · exact h.elim
end
end
end Go.Proofs.YtdblhmpcilihnaaGreat.E

namespace Go.Proofs.YtdblhmpcilihnaaGreat.E
open Go
noncomputable section
set_option linter.unusedVariables false
set_option linter.unusedSimpArgs false

/-- The engine's picture may be drawn anew: less is known, blocks are left or frozen, numbers change (those from n0 on). -/
structure Wk (n0 : Nat) (fr : Fr) (H : Hp) (fr1 : Fr) (H1 : Hp) : Prop where
  run : ∀ σ F w tmps, n0 ≤ H.next → WR σ F H w → FrRel H.next σ F w fr tmps → ∃ σ' F', Ext n0 σ F H w σ' F' H1 w ∧ WR σ' F' H1 w ∧ FrRel H1.next σ' F' w fr1 tmps

def freeN : Nat → AV → Bool
  | 0, _ => false
  | d + 1, x => match x with
    | .val _ => true
    | .sl _ _ _ => true
    | .agg cs => cs.all (freeN d)
    | .tup vs => vs.all (freeN d)
    | .fptr _ _ _ _ _ => true
    | .hptr _ _ _ _ => false
    | .hsl _ _ _ _ _ _ => false
    | .fn _ a b => a.all (freeN d) && b.all (freeN d)
    | .mp _ => false
    | .junk => true
/-- A value that names no block of the call's own. -/
def AV.free (x : AV) : Bool := freeN 5 x
def freeL (l : List AV) : Bool := l.all (freeN 5)

/-- A function that only computes: whatever the memory, it returns r. -/
structure Pure (P : Program) (g : FuncId) (args : List AV) (r : AV) : Prop where
  run : ACalls P g args ⟨0, []⟩ fun x _ => x = r
  fa : freeL args = true
  fr : r.free = true

def bdN (n : Nat) : Nat → AV → Bool
  | 0, _ => false
  | d + 1, x => match x with
    | .agg cs => cs.all (bdN n d)
    | .tup vs => vs.all (bdN n d)
    | .hptr id _ _ _ => Nat.blt id n
    | .hsl id _ _ _ _ _ => Nat.blt id n
    | .fn _ a b => a.all (bdN n d) && b.all (bdN n d)
    | .mp id => Nat.blt id n
    | .val _ => true
    | .sl _ _ _ => true
    | .fptr _ _ _ _ _ => true
    | .junk => true
/-- Blocks have new numbers: the elder value of a value. -/
def renN (ρ : Nat → Nat) : Nat → AV → AV
  | 0, x => x
  | d + 1, x => match x with
    | .agg cs => .agg (cs.map (renN ρ d))
    | .tup vs => .tup (vs.map (renN ρ d))
    | .hptr id sz i j => .hptr (ρ id) sz i j
    | .hsl id sz off len cap ex => .hsl (ρ id) sz off len cap ex
    | .fn f a b => .fn f (a.map (renN ρ d)) (b.map (renN ρ d))
    | .mp id => .mp (ρ id)
    | x => x
def PCall (P : Program) : CallT := fun g args H K => ∃ r, Pure P g args r ∧ K r H

def shA (N : Nat) (x : AV) : AV := renN (fun i => Nat.add N i) 5 x
def shM (N : Nat) : Option MB → Option MB
  | some (.tab k l) => some (.tab k (l.map fun q => (q.1, shA N q.2)))
  | m => m
def shO (N : Nat) : Option Blk → Option Blk
  | some b => some ⟨b.sz, b.rows.map fun r => r.map (shA N), shM N b.mp⟩
  | none => none
/-- The blocks of a call that began with none, laid behind all others. -/
def shE (N : Nat) : List (Nat × Option Blk) → List (Nat × Option Blk)
  | [] => []
  | (id, b) :: l => (Nat.add N id, shO N b) :: shE N l
def bdM (n : Nat) : Option MB → Bool
  | some (.tab _ l) => l.all fun q => bdN n 5 q.2
  | _ => true
def bdE (n : Nat) : List (Nat × Option Blk) → Bool
  | [] => true
  | (id, some b) :: l => Nat.blt id n && (b.rows.all fun r => r.all (bdN n 5)) && bdM n b.mp && bdE n l
  | (id, none) :: l => Nat.blt id n && bdE n l
/-- A function that computes, and makes blocks of its own: whatever the memory, the same ones. -/
structure NPure (P : Program) (g : FuncId) (args : List AV) (x : AV) (n : Nat) (es : List (Nat × Option Blk)) : Prop where
  run : ACalls P g args ⟨0, []⟩ fun y H => y = x ∧ H = ⟨n, es⟩
  fa : freeL args = true
  bd : (bdN n 5 x && bdE n es) = true
def PW {α β : Type} (R : α → β → Prop) (l : List α) (l' : List β) : Prop := l'.length = l.length ∧ ∀ (i : Nat) x y, l[i]? = some x → l'[i]? = some y → R x y
/-- A value as it reads while no one writes. -/
inductive Thaw (H : Hp) : AV → AV → Prop
  | free (x : AV) (h : freeN 5 x = true) : Thaw H x x
  | sl (id sz off len cap : Nat) (ex : Bool) (b : Blk) (f : Nat → List FV) (hg : H.get id = some b) (hs : b.sz = sz) (hl : off + len ≤ b.rows.length) (hr : ∀ i, i < len → b.rows[off + i]? = some ((f i).map FV.up)) : Thaw H (.hsl id sz off len cap ex) (.sl sz len f)
  | ptr (id sz i j : Nat) (b : Blk) (f : Nat → List FV) (hg : H.get id = some b) (hs : b.sz = sz) (hi : i < b.rows.length) (hr : ∀ i, i < b.rows.length → b.rows[i]? = some ((f i).map FV.up)) : Thaw H (.hptr id sz i j) (.fptr sz b.rows.length f i j)
/-- A value as it reads while no one writes, however deep. -/
def DTh (H : Hp) : Nat → AV → AV → Prop
  | 0, _, _ => False
  | d + 1, x, y => (x = y ∧ freeN 5 x = true) ∨ match x, y with
    | .agg l, .agg m => PW (DTh H d) l m
    | .hsl id sz off len _ _, .sl sz' n f => (sz' = sz ∧ n = len) ∧ ∃ b, H.get id = some b ∧ b.sz = sz ∧ off + len ≤ b.rows.length ∧ ∀ i, i < len → ∃ row, b.rows[off + i]? = some row ∧ PW (DTh H d) row ((f i).map FV.up)
    | .hptr id sz i j, .fptr sz' n f i' j' => (sz' = sz ∧ i' = i ∧ j' = j) ∧ ∃ b, H.get id = some b ∧ b.sz = sz ∧ n = b.rows.length ∧ i < n ∧ ∀ k, k < n → ∃ row, b.rows[k]? = some row ∧ PW (DTh H d) row ((f k).map FV.up)
    | .val (.slice none 0 0), .sl _ n _ => n = 0
    | _, _ => False
def plainN : Nat → AV → Bool
  | 0, _ => false
  | d + 1, x => match x with
    | .val _ => true
    | .agg cs => cs.all (plainN d)
    | .tup cs => cs.all (plainN d)
    | _ => false
/-- A call ahead in a region that draws its order. -/
structure HCall (P : Program) (q : Bool) (g : FuncId) (args : List AV) (H : Hp) (K : AV → Hp → Prop) : Prop where
  p : PCall P g args H K ∨ (∃ x n es, NPure P g args x n es ∧ K (shA H.next x) ⟨Nat.add H.next n, shE H.next es ++ H.es⟩) ∨ ∃ args' r, Pure P g args' r ∧ plainN 5 r = true ∧ (PW (Thaw H) args args' ∨ q = true ∧ PW (DTh H 5) args args') ∧ K r H
theorem HCall.pure {P : Program} {q : Bool} {g : FuncId} {args : List AV} {H : Hp} {K : AV → Hp → Prop} {r : AV} (h : Pure P g args r) (hk : K r H) : HCall P q g args H K := ⟨.inl ⟨r, h, hk⟩⟩
theorem HCall.neu {P : Program} {q : Bool} {g : FuncId} {args : List AV} {H : Hp} {K : AV → Hp → Prop} {x : AV} {n : Nat} {es : List (Nat × Option Blk)} (h : NPure P g args x n es) (hk : K (shA H.next x) ⟨Nat.add H.next n, shE H.next es ++ H.es⟩) : HCall P q g args H K := ⟨.inr (.inl ⟨x, n, es, h, hk⟩)⟩
theorem HCall.thaw {P : Program} {q : Bool} {g : FuncId} {args args' : List AV} {H : Hp} {K : AV → Hp → Prop} {r : AV} (h : Pure P g args' r) (hp : plainN 5 r = true) (ht : PW (Thaw H) args args') (hk : K r H) : HCall P q g args H K := ⟨.inr (.inr ⟨args', r, h, hp, .inl ht, hk⟩)⟩
theorem HCall.deep {P : Program} {g : FuncId} {args args' : List AV} {H : Hp} {K : AV → Hp → Prop} {r : AV} (h : Pure P g args' r) (hp : plainN 5 r = true) (ht : PW (DTh H 5) args args') (hk : K r H) : HCall P true g args H K := ⟨.inr (.inr ⟨args', r, h, hp, .inr ⟨rfl, ht⟩, hk⟩)⟩

structure LoopP (n0 : Nat) (body : (Exit → Fr → Hp → Prop) → Fr → Hp → Prop) (Q : Exit → Fr → Hp → Prop) (fr : Fr) (H : Hp) : Prop where
  ex : ∃ Inv : Nat → Fr → Hp → Prop, (∃ m fr1 H1, Wk n0 fr H fr1 H1 ∧ Inv m fr1 H1) ∧
    ∀ m fr H, Inv m fr H → body (fun e fr' H' => match e with | .normal => ∃ m' fr1 H1, m' < m ∧ Wk n0 fr' H' fr1 H1 ∧ Inv m' fr1 H1 | e => Q e fr' H') fr H

/-- Operations that leave the blocks alone, whatever they are. -/
def nk : Op → Bool
  | .move _ | .assign _ | .pick .. | .load .. | .unOp .. | .fieldAddr .. | .field .. | .extract .. | .makeFunc .. | .build .. | .nilCheck _ | .indexAddr .. | .index .. | .slice .. | .convert .. | .lookup .. => true
  | .binOp op _ _ y _ => !(isNilC y && (match op with | .eql => true | .neq => true | _ => false))
  | .call c => match c.callee with
    | .builtin .len => true
    | .builtin .min => true
    | .builtin .max => true
    | .value _ => true
    | _ => false
  | _ => false
/-- Operations that make one new block. -/
def ak : Op → Bool
  | .alloc _ | .box .. | .buildSlice .. | .makeSlice .. | .makeMap .. => true
  | _ => false
/-- Operations that change the blocks, of which a region may hold one out of line. -/
def sk : Op → Bool
  | .store .. => true
  | .mapUpdate .. => true
  | .insert .. => true
  | o => ak o
/-- Operations that look into the blocks. -/
def isLd : Op → Bool
  | .load .. => true
  | .lookup .. => true
  | _ => false
def isLk : Op → Bool
  | .lookup .. => true
  | _ => false
/-- Who comes ahead of each operation, whatever order is drawn: a number's bits. -/
def maskE (ms : List Nat) (acc : Nat) (e : Edge) : Nat := bif Region.binds .any e then Nat.lor acc (Nat.lor (Nat.shiftLeft 1 e.on) (ms.getD e.on 0)) else acc
def maskOf (ms : List Nat) (o : Oper) : Nat := o.after.toList.foldl (maskE ms) 0
def masksGo : List Nat → List Oper → List Nat
  | ms, [] => ms
  | ms, o :: l => masksGo (ms ++ [maskOf ms o]) l
def masks (ops : Array Oper) : List Nat := masksGo [] ops.toList
def edge (ops : Array Oper) (j i : Nat) : Bool := Nat.testBit ((masks ops).getD j 0) i
def opAt (ops : Array Oper) (i : Nat) : Oper := ops.getD i default
def idOf : AV → List Nat
  | .hptr id _ _ _ => [id]
  | .hsl id _ _ _ _ _ => [id]
  | .mp id => [id]
  | _ => []
/-- The blocks that an operation looks at or writes. -/
def touch (o : Op) (fr : Fr) : List Nat :=
  match o with
  | .load _ x => idOf (ev fr x)
  | .lookup _ m _ _ => idOf (ev fr m)
  | .store _ x _ => idOf (ev fr x)
  | .mapUpdate _ m _ _ => idOf (ev fr m)
  | .insert _ m _ _ => idOf (ev fr m)
  | .call c => match c.callee with
    | .builtin .append => (c.args.toList.map fun x => idOf (ev fr x)).flatten
    | .builtin .copy => (c.args.toList.map fun x => idOf (ev fr x)).flatten
    | .value f => match ev fr f with
      | .fn _ first cap => ((first ++ c.args.toList.map (ev fr) ++ cap).map idOf).flatten
      | _ => []
    | _ => []
  | _ => []
/-- The blocks that an operation may write. -/
def targets (o : Op) (fr : Fr) : List Nat :=
  match o with
  | .store _ x _ => idOf (ev fr x)
  | .mapUpdate _ m _ _ => idOf (ev fr m)
  | .insert _ m _ _ => idOf (ev fr m)
  | .call c => match c.callee with
    | .builtin .append => (c.args.toList.map fun x => idOf (ev fr x)).flatten
    | .builtin .copy => (c.args.toList.map fun x => idOf (ev fr x)).flatten
    | _ => []
  | _ => []
/-- The numbers of new blocks. -/
def news (a : Nat) : Nat → List Nat
  | 0 => []
  | k + 1 => a :: news (Nat.succ a) k
def wrote (o : Op) (fr : Fr) (H H' : Hp) : List Nat := targets o fr ++ news H.next (Nat.sub H'.next H.next)
/-- Of the operations ahead: their numbers, what they touched, what they wrote. -/
abbrev Acc := List (Nat × List Nat × List Nat)
def disj (u t : List Nat) : Bool := u.all fun x => t.all fun y => !Nat.beq x y
/-- Whoever comes in no fixed order with the operation k leaves its blocks alone. -/
def okAcc (all : Array Oper) (k : Nat) (t u : List Nat) : Acc → Bool
  | [] => true
  | (i, t', u') :: l => ((disj u' t && disj u t') || edge all k i) && okAcc all k t u l
def dyn (all : Array Oper) (k : Nat) (acc : Acc) (t u : List Nat) (R : Acc → Prop) : Prop :=
  match t, u with
  | [], [] => R acc
  | t, u => bif okAcc all k t u acc then R ((k, t, u) :: acc) else False
theorem dyn_mono {all : Array Oper} {k : Nat} {acc : Acc} {t u : List Nat} {R R' : Acc → Prop} (h : ∀ acc, R acc → R' acc) (hd : dyn all k acc t u R) : dyn all k acc t u R' := by
  unfold dyn at hd ⊢
  split
  · exact h _ hd
  · rename_i hn
    split at hd
    · exact (hn rfl rfl).elim
    · cases hc : okAcc all k t u acc <;> rw [hc] at hd
      · exact hd
      · exact h _ hd
def bar (ops : Array Oper) (j : Nat) : Bool := Nat.beq ((masks ops).getD j 0) (Nat.sub (Nat.pow 2 j) 1)
def pfxGo (ops : Array Oper) : Nat → Nat
  | 0 => 0
  | k + 1 => bif bar ops k then pfxGo ops k else k + 1
/-- No operation changes a block (but a call makes new ones). -/
def quietR (ops : Array Oper) : Bool := ops.toList.all fun o => nk o.op
/-- A call in a region that draws its order: behind all else it may do what it will, else it only computes. -/
def tailC (P : Program) (ops : Array Oper) (k : Nat) : CallT := fun g args H K => @Bool.rec (fun _ => Prop) (HCall P (quietR ops) g args H K) (ACalls P g args H K) (Nat.ble (pfxGo ops ops.size) k)
def evDr (P : Program) (all : Array Oper) (Q : Exit → Fr → Hp → Prop) : Nat → Acc → List Oper → Fr → Hp → Prop
  | _, _, [], fr, H => Q .normal fr H
  | k, acc, o :: rest, fr, H => onG all fr o.guard (evOp P (tailC P all k) o.op fr H fun x H' => dyn all k acc (touch o.op fr) (wrote o.op fr H H') fun acc => force x fun x => evDr P all Q (k + 1) acc rest (put fr o.dst x) H') (evDr P all Q (k + 1) acc rest (put fr o.dst skipV) H)

abbrev WpT := (Exit → Fr → Hp → Prop) → Fr → Hp → Prop
/-- What a region does. -/
def regW (P : Program) (ops : Array Oper) (d : Bool) : WpT := @Bool.rec (fun _ => WpT) (fun Q fr H => evOps P (ACalls P) ops Q ops.toList fr H) (fun Q fr H => evDr P ops Q 0 [] ops.toList fr H) d
def condW (x : AV) (A B : Prop) : Prop := match x with
  | .val (.bool t) => onB t A B
  | _ => False
/-- Between two pieces of code the picture may be drawn anew. -/
structure SeqW (n0 : Nat) (b : WpT) (Q : Exit → Fr → Hp → Prop) (fr : Fr) (H : Hp) : Prop where
  p : ∃ fr1 H1, Wk n0 fr H fr1 H1 ∧ b Q fr1 H1
def seqK (n0 : Nat) (b : WpT) (Q : Exit → Fr → Hp → Prop) (e : Exit) (fr : Fr) (H : Hp) : Prop := match e with
  | .normal => SeqW n0 b Q fr H
  | e => Q e fr H
def blockK (id : Nat) (Q : Exit → Fr → Hp → Prop) (e : Exit) (fr : Fr) (H : Hp) : Prop := match e with
  | .exit i => bif Nat.beq i id then Q .normal fr H else Q (.exit i) fr H
  | e => Q e fr H
/-- What is looked at once for all: every slot is there; the regions that draw their order may be taken in the order of the text. -/
def okCode (D : Array Oper → Bool) (nt : Nat) : Code → Bool
  | .skip => true
  | .region _ ops false => ops.toList.all (dstOk nt)
  | .region _ ops true => ops.toList.all (dstOk nt) && D ops
  | .seq a b => okCode D nt a && okCode D nt b
  | .cond _ a b => okCode D nt a && okCode D nt b
  | .block _ b => okCode D nt b
  | .loop b => okCode D nt b
  | .scope b => okCode D nt b
  | _ => true

def scopeK (G : Nat → Fr → Hp → Prop) (Q : Exit → Fr → Hp → Prop) (e : Exit) (fr : Fr) (H : Hp) : Prop := match e with
  | .goto l => G l fr H
  | e => Q e fr H
/-- The regions that draw their order may be taken in the order of the text. -/
def SndD (P : Program) (B : Beg) (D : Array Oper → Bool) : Prop := ∀ (id : Nat) (ops : Array Oper), D ops = true → (∀ o ∈ ops.toList, dstOk B.nt o = true) → ∀ (Q : Exit → Fr → Hp → Prop) (fr : Fr) (H : Hp) (a : Act) (w : World), evDr P ops Q 0 [] ops.toList fr H → St P B fr H a w → (Code.region id ops true).wp P (Up P B Q) a w
/-- A jump to a label of the scope b: what stands behind the label is walked, without further jumps. -/
structure GotoC (P : Program) (n0 : Nat) (b : Code) (Q : Exit → Fr → Hp → Prop) (l : Nat) (fr : Fr) (H : Hp) : Prop where
  p : ∃ rest, findLabel b l = some rest ∧ ∀ (D : Array Oper → Bool) (B : Beg), B.n0 = n0 → SndD P B D → okCode D B.nt b = true → ∀ a w, St P B fr H a w → rest.wp P (Up P B (scopeK (fun _ _ _ => False) Q)) a w
theorem okCode_find {D : Array Oper → Bool} {nt : Nat} {l : Nat} : ∀ {b rest : Code}, findLabel b l = some rest → okCode D nt b = true → okCode D nt rest = true
  | .seq x y, rest, h, ho => by
    simp only [okCode, Bool.and_eq_true] at ho
    simp only [findLabel] at h
    split at h
    · rename_i r hr
      cases h
      simp only [okCode, Bool.and_eq_true]
      exact ⟨okCode_find hr ho.1, ho.2⟩
    · exact okCode_find h ho.2
  | .label l', rest, h, ho => by
    simp only [findLabel] at h
    split at h
    · cases h; rfl
    · cases h
  | .skip, _, h, _ | .region .., _, h, _ | .cond .., _, h, _ | .block .., _, h, _ | .loop .., _, h, _ | .rangeFunc .., _, h, _ | .exit .., _, h, _ | .scope .., _, h, _ | .goto .., _, h, _ | .ret, _, h, _ | .refuse .., _, h, _ => by cases h
theorem wp_scope_any {P : Program} {c : Code} {Q : Exit → Act → World → Prop} {a : Act} {w : World}
    (first : c.wp P (fun e a w => match e with | .goto l => ∃ rest, findLabel c l = some rest ∧ rest.wp P (Exit.noGoto Q) a w | e => Q e a w) a w) : (Code.scope c).wp P Q a w := by
  intro b k cs
  obtain ⟨e, a₁, w₁, hq, harr⟩ := first b (.inScope c :: k) cs
  cases e with
  | normal => exact ⟨.normal, a₁, w₁, hq, .head step_scope (Steps.trans harr (.one step_inScope))⟩
  | exit id => exact ⟨.exit id, a₁, w₁, hq, fun k' hk => .head step_scope (harr k' (by simp [exitTo, hk]))⟩
  | goto l' =>
    obtain ⟨rest, hf, hr⟩ := hq
    have hg : gotoIn l' (.inScope c :: k) = some (.code rest :: .inScope c :: k) := by simp [gotoIn, hf]
    obtain ⟨e₂, a₂, w₂, hq₂, harr₂⟩ := hr b (.inScope c :: k) cs
    cases e₂ with
    | normal => exact ⟨.normal, a₂, w₂, hq₂, .of_steps (.head step_scope (harr _ hg)) (Steps.trans harr₂ (.one step_inScope))⟩
    | exit id => exact ⟨.exit id, a₂, w₂, hq₂, .of_steps (.head step_scope (harr _ hg)) (fun k' hk => harr₂ k' (by simp [exitTo, hk]))⟩
    | goto l => exact hq₂.elim
    | ret => exact ⟨_, a₂, w₂, hq₂, .of_steps (.head step_scope (harr _ hg)) harr₂⟩
    | panic ch => exact ⟨_, a₂, w₂, hq₂, .of_steps (.head step_scope (harr _ hg)) harr₂⟩
    | outgrown => exact ⟨_, a₂, w₂, hq₂, .of_steps (.head step_scope (harr _ hg)) harr₂⟩
  | ret => exact ⟨_, a₁, w₁, hq, .of_steps (.one step_scope) harr⟩
  | panic ch => exact ⟨_, a₁, w₁, hq, .of_steps (.one step_scope) harr⟩
  | outgrown => exact ⟨_, a₁, w₁, hq, .of_steps (.one step_scope) harr⟩
structure LoopC (P : Program) (n0 : Nat) (c : Code) (W : WpT) (Q : Exit → Fr → Hp → Prop) (fr : Fr) (H : Hp) : Prop where
  p : LoopP n0 W Q fr H
/-- What a piece of code does with the engine's picture. By the recursor itself: the kernel and the elaborator then see the same terms. -/
def evWp (P : Program) (n0 : Nat) (c : Code) : WpT :=
  @Code.rec (fun _ => WpT) (fun Q fr H => Q .normal fr H) (fun _ ops d => regW P ops d) (fun _ _ ia ib Q fr H => ia (seqK n0 ib Q) fr H) (fun c _ _ ia ib Q fr H => condW (ev fr c) (ia Q fr H) (ib Q fr H))
    (fun id _ ib Q fr H => ib (blockK id Q) fr H) (fun b ib Q fr H => LoopC P n0 b ib Q fr H) (fun _ _ _ _ _ _ _ _ _ => False) (fun id Q fr H => Q (.exit id) fr H) (fun b ib Q fr H => ib (scopeK (GotoC P n0 b Q) Q) fr H)
    (fun _ Q fr H => Q .normal fr H) (fun l Q fr H => Q (.goto l) fr H) (fun Q fr H => Q .ret fr H) (fun _ _ _ _ => False) c

theorem least {p : Nat → Prop} (h : ∃ n, p n) : ∃ n, p n ∧ ∀ m, p m → n ≤ m := by
  obtain ⟨n, hn⟩ := h
  induction n using Nat.strongRecOn with
  | _ n ih =>
    by_cases c : ∃ m, m < n ∧ p m
    · obtain ⟨m, hm, hp⟩ := c; exact ih m hm hp
    · exact ⟨n, hn, fun m hm => Nat.le_of_not_lt fun hl => c ⟨m, hl, hm⟩⟩

section
variable {P : Program} {B : Beg} {D : Array Oper → Bool}

theorem evWp_sound (hD : SndD P B D)
    (c : Code) : okCode D B.nt c = true → ∀ (Q : Exit → Fr → Hp → Prop) (fr : Fr) (H : Hp) (a : Act) (w : World), evWp P B.n0 c Q fr H → St P B fr H a w → c.wp P (Up P B Q) a w := by
  induction c with
  | skip => exact fun _ Q fr H a w h hs => wp_skip ⟨fr, H, h, hs⟩
  | region id ops draw =>
    intro hok Q fr H a w h hs
    cases draw
    · simp only [okCode, List.all_eq_true] at hok
      have := evOps_sound (P := P) (B := B) (Q := Q) ops.toList 0 (fun j => by simp) hok fr H a w h hs
      refine wp_region ?_
      rw [List.range_eq_range']
      rw [← Array.length_toList]
      exact this
    · simp only [okCode, Bool.and_eq_true, List.all_eq_true] at hok
      exact hD id ops hok.2 hok.1 Q fr H a w h hs
  | seq x y ihx ihy =>
    intro hok Q fr H a w h hs
    simp only [okCode, Bool.and_eq_true] at hok
    refine wp_seq (wp_mono (ihx hok.1 (seqK B.n0 (evWp P B.n0 y) Q) fr H a w h hs) fun e a w hq => ?_)
    obtain ⟨fr', H', hq, hs'⟩ := hq
    cases e with
    | normal =>
      obtain ⟨fr1, H1, hk, hq⟩ := SeqW.p hq
      obtain ⟨σ, F, hx, hw, hf, hn, hd⟩ := hs'
      obtain ⟨σ', F', hx', hw', hf'⟩ := hk.run σ F w a.tmps hx.n.2 hw hf
      exact ihy hok.2 Q fr1 H1 a w hq ⟨σ', F', hx.trans hx', hw', hf', hn, hd⟩
    | _ => exact ⟨fr', H', hq, hs'⟩
  | cond c x y ihx ihy =>
    intro hok Q fr H a w h hs
    simp only [okCode, Bool.and_eq_true] at hok
    replace h : condW (ev fr c) (evWp P B.n0 x Q fr H) (evWp P B.n0 y Q fr H) := h
    unfold condW at h
    split at h
    case h_2 => exact h.elim
    rename_i t ht
    have hc : a.eval c = .bool t := by
      obtain ⟨σ, F, _, _, hf, _⟩ := hs
      have := ev_rel hf c
      rw [ht] at this
      generalize a.eval c = u at this
      cases this; rfl
    refine wp_cond hc ?_
    cases t
    · exact ihy hok.2 Q fr H a w h hs
    · exact ihx hok.1 Q fr H a w h hs
  | block id b ih =>
    intro hok Q fr H a w h hs
    refine wp_block (wp_mono (ih hok (blockK id Q) fr H a w h hs) fun e a w hq => ?_)
    obtain ⟨fr', H', hq, hs'⟩ := hq
    cases e with
    | exit i =>
      replace hq : (bif Nat.beq i id then Q .normal fr' H' else Q (.exit i) fr' H') := hq
      rw [beq_eq] at hq
      by_cases c : i = id
      · simp only [Exit.inBlock, c, if_true]
        simp only [c, decide_true, cond_true] at hq
        exact ⟨fr', H', hq, hs'⟩
      · simp only [Exit.inBlock, c, if_false]
        simp only [c, decide_false, cond_false] at hq
        exact ⟨fr', H', hq, hs'⟩
    | _ => exact ⟨fr', H', hq, hs'⟩
  | loop b ih =>
    intro hok Q fr H a w h hs
    replace h : LoopC P B.n0 b (evWp P B.n0 b) Q fr H := h
    replace h := h.p
    obtain ⟨Inv, ⟨m, fr1, H1, hwk, hi⟩, hround⟩ := h.ex
    have wk : ∀ {fr H fr1 H1 a w}, Wk B.n0 fr H fr1 H1 → St P B fr H a w → St P B fr1 H1 a w := by
      rintro fr H fr1 H1 a w hk ⟨σ, F, hx, hw, hf, hn, hd⟩
      obtain ⟨σ', F', hx', hw', hf'⟩ := hk.run σ F w a.tmps hx.n.2 hw hf
      exact ⟨σ', F', hx.trans hx', hw', hf', hn, hd⟩
    classical
    let I : Act → World → Prop := fun a w => ∃ m fr H, Inv m fr H ∧ St P B fr H a w
    let μ : Act → World → Nat := fun a w => if h : ∃ m, ∃ fr H, Inv m fr H ∧ St P B fr H a w then Classical.choose (least h) else 0
    refine wp_loop I μ ⟨m, fr1, H1, hi, wk hwk hs⟩ fun a w hI => ?_
    have hμ : μ a w = Classical.choose (least hI) := by simp only [μ]; exact dif_pos hI
    obtain ⟨fr2, H2, hinv, hst⟩ := (Classical.choose_spec (least hI)).1
    refine wp_mono (ih hok _ fr2 H2 a w (hround _ fr2 H2 hinv) hst) fun e a' w' hq => ?_
    obtain ⟨fr', H', hq, hs'⟩ := hq
    cases e with
    | normal =>
      obtain ⟨m', fr3, H3, hlt, hwk', hinv'⟩ := hq
      have hI' : ∃ m, ∃ fr H, Inv m fr H ∧ St P B fr H a' w' := ⟨m', fr3, H3, hinv', wk hwk' hs'⟩
      refine ⟨hI', ?_⟩
      have : μ a' w' = Classical.choose (least hI') := by simp only [μ]; exact dif_pos hI'
      rw [this, hμ]
      exact Nat.lt_of_le_of_lt ((Classical.choose_spec (least hI')).2 _ ⟨fr3, H3, hinv', wk hwk' hs'⟩) hlt
    | _ => exact ⟨fr', H', hq, hs'⟩
  | exit id => exact fun _ Q fr H a w h hs => wp_exit ⟨fr, H, h, hs⟩
  | ret => exact fun _ Q fr H a w h hs => wp_ret ⟨fr, H, h, hs⟩
  | label l => exact fun _ Q fr H a w h hs => wp_label ⟨fr, H, h, hs⟩
  | scope b ih =>
    intro hok Q fr H a w h hs
    refine wp_scope_any (wp_mono (ih hok (scopeK (GotoC P B.n0 b Q) Q) fr H a w h hs) fun e a w hq => ?_)
    obtain ⟨fr', H', hq, hs'⟩ := hq
    cases e with
    | goto l =>
      obtain ⟨rest, hf, hr⟩ := hq.p
      refine ⟨rest, hf, wp_mono (hr D B rfl hD hok a w hs') fun e a w hq => ?_⟩
      obtain ⟨fr2, H2, hq, hs2⟩ := hq
      cases e with
      | goto l => exact hq.elim
      | _ => exact ⟨fr2, H2, hq, hs2⟩
    | _ => exact ⟨fr', H', hq, hs'⟩
  | goto l => exact fun _ Q fr H a w h hs => wp_goto ⟨fr, H, h, hs⟩
  | rangeFunc => exact fun _ Q fr H a w h hs => h.elim
  | refuse => exact fun _ Q fr H a w h hs => h.elim
end
end
end Go.Proofs.YtdblhmpcilihnaaGreat.E

namespace Go.Proofs.YtdblhmpcilihnaaGreat.E
open Go
noncomputable section
set_option linter.unusedVariables false
set_option linter.unusedSimpArgs false

def evRes (P : Program) (fr : Fr) (H : Hp) : List ResultVar → Option (List AV)
  | [] => some []
  | .tmp t :: rs => (evRes P fr H rs).map (look fr t :: ·)
  | .cell a t :: rs => match evLoad P t H (look fr a), evRes P fr H rs with
    | some x, some l => some (x :: l)
    | _, _ => none
def tupOf : List AV → AV
  | [x] => x
  | l => .tup l
def forceL : List AV → (List AV → Prop) → Prop
  | [], k => k []
  | x :: l, k => force x fun x => forceL l fun l => k (x :: l)
theorem forceL_eq : ∀ (l : List AV) (k : List AV → Prop), forceL l k = k l
  | [], _ => rfl
  | x :: l, k => by simp only [forceL, force_eq, forceL_eq l]
def retQ (P : Program) (n0 : Nat) (rs : List ResultVar) (K : AV → Hp → Prop) : Exit → Fr → Hp → Prop
  | .normal, fr, H => match evRes P fr H rs with
    | some l => forceL l fun l => force (tupOf l) fun x => ∃ x1 H1, Wk n0 [(0, x)] H [(0, x1)] H1 ∧ K x1 H1
    | none => False
  | .ret, fr, H => match evRes P fr H rs with
    | some l => forceL l fun l => force (tupOf l) fun x => ∃ x1 H1, Wk n0 [(0, x)] H [(0, x1)] H1 ∧ K x1 H1
    | none => False
  | _, _, _ => False
def argFr : Nat → List AV → Fr
  | _, [] => []
  | n, x :: l => (n, x) :: argFr (n + 1) l

section
variable {P : Program} {N : Nat} {σ σ' : Sg} {F F' : Nat → Prop} {H H' H1 : Hp} {w w' : World} {fr fr1 : Fr} {K : AV → Hp → Prop}

theorem look_argFr : ∀ (l : List AV) (n t : Nat), look (argFr n l) t = if n ≤ t then (l[t - n]?).getD .junk else .junk
  | [], n, t => by simp [argFr, look_nil, look_cons']
  | x :: l, n, t => by
    rw [argFr, look_cons, look_argFr l (n + 1) t]
    by_cases c : n = t
    · subst c; simp
    · rw [if_neg c]
      by_cases d : n ≤ t
      · rw [if_pos (by omega), if_pos d, show t - n = (t - (n + 1)) + 1 by omega]; rfl
      · rw [if_neg (by omega), if_neg d]

def resOne (tmps : Array Value) : ResultVar → Sem Value
  | .tmp t => pure (tmps.getD t undef)
  | .cell a t => do loadVar t (← asAddr (tmps.getD a undef))
theorem evRes_sound (hw : WR σ F H w) {tmps : Array Value} (hf : FrRel H.next σ F w fr tmps) : ∀ (rs : List ResultVar) (l : List AV), evRes P fr H rs = some l →
    ∃ vs : List Value, (rs.mapM (resOne tmps)).run P w = .ok vs w ∧ vs.length = l.length ∧ ∀ i x, l[i]? = some x → AR H.next σ F w x (vs.getD i undef)
  | [], l, h => by simp only [evRes, Option.some.injEq] at h; subst h; exact ⟨[], by simp, rfl, fun i x h => by simp at h⟩
  | .tmp t :: rs, l, h => by
    simp only [evRes, Option.map_eq_some_iff] at h
    obtain ⟨l', hl, rfl⟩ := h
    obtain ⟨vs, h1, h2, h3⟩ := evRes_sound hw hf rs l' hl
    refine ⟨tmps.getD t undef :: vs, by simp [List.mapM_cons, h1, resOne], by simp [h2], fun i x hx => ?_⟩
    cases i with
    | zero => simp at hx; subst hx; exact hf t
    | succ i => exact h3 i x (by simpa using hx)
  | .cell a t :: rs, l, h => by
    simp only [evRes] at h
    split at h
    case h_2 => cases h
    rename_i y l' hy hl
    simp only [Option.some.injEq] at h
    subst h
    obtain ⟨vs, h1, h2, h3⟩ := evRes_sound hw hf rs l' hl
    obtain ⟨u, hu, hr⟩ := evLoad_sound hw (hf a) hy
    have hu' : (do loadVar t (← asAddr (tmps.getD a undef)) : Sem Value).run P w = .ok u w := by
      have hfa := hf a
      generalize tmps.getD a undef = q at hfa hu
      cases q <;> simp [Instr.loadAt, Instr.sureAddr] at hu
      rename_i p
      cases p <;> simp [Instr.loadAt, Instr.sureAddr] at hu
      simpa [asAddr] using hu
    refine ⟨u :: vs, by
      have hu2 : (resOne tmps (.cell a t)).run P w = .ok u w := hu'
      simp only [List.mapM_cons, Sem.run_bind, hu2, h1, Result.andThen_ok, Sem.run_pure], by simp [h2], fun i x hx => ?_⟩
    cases i with
    | zero => simp at hx; subst hx; exact hr
    | succ i => exact h3 i x (by simpa using hx)

theorem results_sound (hw : WR σ F H w) {tmps : Array Value} (hf : FrRel H.next σ F w fr tmps) {fn : Func} {l : List AV} (h : evRes P fr H fn.results.toList = some l) :
    ∃ v, (results fn tmps).run P w = .ok v w ∧ AR H.next σ F w (tupOf l) v := by
  obtain ⟨vs, h1, h2, h3⟩ := evRes_sound (P := P) hw hf _ l h
  have hres : results fn tmps = (fn.results.mapM (resOne tmps) >>= fun vs => pure (if h : vs.size = 1 then vs[0] else .tuple vs)) := by
    unfold results
    congr 2
  rw [hres, Array.mapM_eq_mapM_toList]
  simp only [Sem.run_bind, Sem.run_map, h1, Result.andThen_ok, Sem.run_pure]
  refine ⟨_, rfl, ?_⟩
  match l, h2, h3 with
  | [x], h2, h3 =>
    obtain ⟨v, rfl⟩ : ∃ v, vs = [v] := by
      match vs, h2 with
      | [v], _ => exact ⟨v, rfl⟩
    simpa [tupOf] using h3 0 x rfl
  | [], h2, h3 =>
    obtain rfl : vs = [] := List.eq_nil_of_length_eq_zero h2
    exact .tup _ _ rfl fun i x h => by simp at h
  | x :: y :: l, h2, h3 =>
    have : ¬ vs.toArray.size = 1 := by simp at h2 ⊢; omega
    rw [dif_neg this]
    exact .tup _ _ (by simpa using h2) fun i z hz => by
      have := h3 i z hz
      simpa [Array.getD_eq_getD_getElem?, List.getD_eq_getElem?_getD] using this

theorem ACalls.of_ev {D : Array Oper → Bool} {g : FuncId} {fn : Func} {c : Code} {args : List AV}
    (hD : ∀ (B : Beg) (id : Nat) (ops : Array Oper), D ops = true → (∀ o ∈ ops.toList, dstOk B.nt o = true) → ∀ (Q : Exit → Fr → Hp → Prop) (fr : Fr) (H : Hp) (a : Act) (w : World), evDr P ops Q 0 [] ops.toList fr H → St P B fr H a w → (Code.region id ops true).wp P (Up P B Q) a w)
    (hf : P.funcs[g]? = some fn) (hb : fn.body = some c) (hnm : (fn.name == "runtime.NumGoroutine") = false) (hok : okCode D fn.ntmps c = true) (hlen : args.length ≤ fn.ntmps)
    (h : evWp P H.next c (retQ P H.next fn.results.toList K) (argFr 0 args) H) : ACalls P g args H K := by
  refine ⟨⟨fn, hf, by rw [hb]; rfl, hnm⟩, fun σ F w vs hw hr => ?_⟩
  have hvs := hr.1
  let B : Beg := ⟨H.next, σ, F, H, w, fn.ntmps⟩
  refine calls_of_wp hf hb (wp_mono (evWp_sound (B := B) (hD B) c hok _ (argFr 0 args) H _ w h ⟨σ, F, Ext.refl (Nat.le_refl _), hw, fun t => ?_, ?_, rfl⟩) ?_)
  · rw [look_argFr]
    simp only [Nat.zero_le, if_true, Nat.sub_zero]
    cases hx : args[t]? with
    | none => exact .junk _
    | some x =>
      have hlt := (List.getElem?_eq_some_iff.1 hx).1
      have := hr.2 t x hx
      simp only [Option.getD_some, Array.getD_eq_getD_getElem?]
      rw [Array.getElem?_append_left (by omega)]
      simpa [Array.getD_eq_getD_getElem?] using this
  · simp; show vs.size + (fn.ntmps - vs.size) = fn.ntmps; omega
  · rintro e a w' ⟨fr', H', hq, σ', F', hx, hw', hf', hn, hd⟩
    have key : (match evRes P fr' H' fn.results.toList with | some l => ∃ x1 H1, Wk H.next [(0, tupOf l)] H' [(0, x1)] H1 ∧ K x1 H1 | none => False) → a.defers = [] ∧ ∃ v, (results fn a.tmps).run P w' = .ok v w' ∧
        ∃ v', Ending.returned v = .returned v' ∧ ∃ x σ' F' H', K x H' ∧ Ext H.next σ F H w σ' F' H' w' ∧ WR σ' F' H' w' ∧ AR H'.next σ' F' w' x v' := fun hq => by
      split at hq
      case h_2 => exact hq.elim
      rename_i l hl
      obtain ⟨x1, H1, hk, hK⟩ := hq
      obtain ⟨v, hv, hr⟩ := results_sound hw' hf' hl
      obtain ⟨σ2, F2, hx2, hw2, hf2⟩ := hk.run σ' F' w' #[v] hx.n.2 hw' (fun t => by
        rw [look_cons]
        by_cases c : 0 = t
        · subst c; simpa using hr
        · rw [if_neg c]; exact .junk _)
      refine ⟨hd, v, hv, v, rfl, x1, σ2, F2, H1, hK, hx.trans hx2, hw2, ?_⟩
      have := hf2 0
      simpa [look_cons] using this
    cases e with
    | normal => simp only [retQ, forceL_eq, force_eq] at hq; exact key hq
    | ret => simp only [retQ, forceL_eq, force_eq] at hq; exact key hq
    | _ => exact hq.elim

theorem Wk.refl (n0 : Nat) (fr : Fr) (H : Hp) : Wk n0 fr H fr H := ⟨fun σ F w tmps hn hw hf => ⟨σ, F, Ext.refl hn, hw, hf⟩⟩
theorem Wk.trans {n0 : Nat} {fr2 : Fr} {H2 : Hp} (h : Wk n0 fr H fr1 H1) (k : Wk n0 fr1 H1 fr2 H2) : Wk n0 fr H fr2 H2 := ⟨fun σ F w tmps hn hw hf => by
  obtain ⟨σ1, F1, hx, hw1, hf1⟩ := h.run σ F w tmps hn hw hf
  obtain ⟨σ2, F2, hx2, hw2, hf2⟩ := k.run σ1 F1 w tmps hx.n.2 hw1 hf1
  exact ⟨σ2, F2, hx.trans hx2, hw2, hf2⟩⟩
theorem ret_now {x : AV} (n0 : Nat) (h : K x H) : ∃ x1 H1, Wk n0 [(0, x)] H [(0, x1)] H1 ∧ K x1 H1 := ⟨x, H, Wk.refl _ _ _, h⟩

/-- Of the frame: only what is named is kept. -/
def subFr (fr : Fr) : Fr → Prop
  | [] => True
  | (t, x) :: l => look fr t = x ∧ subFr fr l
theorem subFr_look {fr : Fr} : ∀ {fr1 : Fr}, subFr fr fr1 → ∀ t, look fr1 t = .junk ∨ look fr1 t = look fr t
  | [], _, t => .inl rfl
  | (k, x) :: l, h, t => by
    rw [look_cons]
    by_cases c : k = t
    · subst c; rw [if_pos rfl]; exact .inr h.1.symm
    · rw [if_neg c]; exact subFr_look h.2 t
theorem Wk.sub {n0 : Nat} (h : subFr fr fr1) : Wk n0 fr H fr1 H := ⟨fun σ F w tmps hn hw hf => ⟨σ, F, Ext.refl hn, hw, fun t => by
  rcases subFr_look h t with e | e
  · rw [e]; exact .junk _
  · rw [e]; exact hf t⟩⟩

theorem all_get {l : List AV} {p : AV → Bool} (h : l.all p = true) {i : Nat} {x : AV} (hx : l[i]? = some x) : p x = true := List.all_eq_true.1 h x (List.mem_of_getElem? hx)
theorem AR.toFreeN {N' : Nat} {x : AV} {v : Value} (h : AR N σ F w x v) : ∀ d, freeN d x = true → AR N' σ' F w x v := by
  induction h with
  | val v => exact fun _ _ => .val v
  | sl sz n f v h => exact fun _ _ => .sl sz n f v h
  | agg cs vs hl h ih =>
    intro d hx
    cases d with
    | zero => cases hx
    | succ d => exact .agg cs vs hl fun i x hi => ih i x hi d (all_get (p := freeN d) hx hi)
  | tup cs vs hl h ih =>
    intro d hx
    cases d with
    | zero => cases hx
    | succ d => exact .tup cs vs hl fun i x hi => ih i x hi d (all_get (p := freeN d) hx hi)
  | fptr sz n f i j u b off hi hb hl hu hr => exact fun _ _ => .fptr sz n f i j u b off hi hb hl hu hr
  | hptr => intro d hx; cases d <;> cases hx
  | hsl => intro d hx; cases d <;> cases hx
  | hnil => intro d hx; cases d <;> cases hx
  | fn f first cap v1 v2 l1 l2 h1 h2 ih1 ih2 =>
    intro d hx
    cases d with
    | zero => cases hx
    | succ d =>
      simp only [freeN, Bool.and_eq_true] at hx
      exact .fn f first cap v1 v2 l1 l2 (fun i x hi => ih1 i x hi d (all_get (p := freeN d) hx.1 hi)) (fun i x hi => ih2 i x hi d (all_get (p := freeN d) hx.2 hi))
  | mp => intro d hx; cases d <;> cases hx
  | junk v => exact fun _ _ => .junk v
theorem AR.toFree {N' : Nat} {x : AV} {v : Value} (h : AR N σ F w x v) (hx : x.free = true) : AR N' σ' F w x v := h.toFreeN 5 hx
theorem freeL_get {l : List AV} (h : freeL l = true) {i : Nat} {x : AV} (hx : l[i]? = some x) : x.free = true := all_get (p := freeN 5) h hx

theorem Pure.call {g : FuncId} {args : List AV} {r : AV} (h : Pure P g args r) (hk : K r H) : ACalls P g args H K := by
  refine ⟨h.run.ok, fun σ F w vs hw hr => ?_⟩
  have hw0 : WR (fun _ => none) F ⟨0, []⟩ w := ⟨fun id blk hg => by simp [Hp.get, blkOf_nil, blkOf_cons] at hg, fun id id' blk blk' b o o' hg => by simp [Hp.get, blkOf_nil, blkOf_cons] at hg, hw.frz⟩
  have hr0 : Rs 0 (fun _ => none) F w args vs := ⟨hr.1, fun i x hx => (hr.2 i x hx).toFree (freeL_get h.fa hx)⟩
  refine (h.run.run _ F w vs hw0 hr0).mono ?_
  rintro e w' ⟨v, rfl, x, σ', F', H', rfl, hx, hw', hr'⟩
  have hno : ∀ b, ¬ Live (fun _ => none) ⟨0, []⟩ b := fun b ⟨id, blk, o, hg, _⟩ => by simp [Hp.get, blkOf_nil, blkOf_cons] at hg
  have hF' : ∀ b, F' b → F b ∨ w.heap.size ≤ b := fun b hb => by
    rcases hx.fr' b hb with h1 | h1 | h1
    · exact .inl h1
    · exact .inr h1
    · exact absurd h1 (hno b)
  have hsame : ∀ b, b < w.heap.size → w'.heap[b]? = w.heap[b]? := fun b hb => hx.same b hb (hno b)
  have hX : Ext H.next σ F H w σ F' H w' := ⟨⟨Nat.le_refl _, Nat.le_refl _⟩, fun _ _ => rfl, hx.fr, fun b hb => (hF' b hb).elim .inl (fun h => .inr (.inl h)), fun b hb _ => hsame b hb, hx.size, fun b hb => .inl hb, hx.heap, hx.os, hx.tape, hx.out⟩
  refine ⟨v, rfl, _, σ, F', H, hk, hX, ⟨fun id blk hg => ⟨hw.lt hg, ?_⟩, hw.inj, hw'.frz⟩, hr'.toFree h.fr⟩
  rcases (hw.own id blk hg).2 with h1 | ⟨b, o, h1, h2⟩
  · exact .inl h1
  · have hb := hw.liveLt ⟨id, blk, o, hg, h1⟩
    refine .inr ⟨b, o, h1, h2.mono (fun id hid => ⟨hid, rfl⟩) hx.fr (fun b hb => hsame b (hw.frz b hb)) hx.size (hsame b hb) fun hf => ?_⟩
    rcases hF' b hf with h3 | h3
    · exact h2.nf h3
    · omega
theorem PCall.acalls {g : FuncId} {args : List AV} (h : PCall P g args H K) : ACalls P g args H K := by
  obtain ⟨r, hr, hk⟩ := h
  exact hr.call hk
end
end
end Go.Proofs.YtdblhmpcilihnaaGreat.E

namespace Go.Proofs.YtdblhmpcilihnaaGreat.E
open Go
noncomputable section
set_option linter.unusedVariables false
set_option linter.unusedSimpArgs false

def clash (ops : Array Oper) (x y : Oper) : Bool :=
  (match x.dst with | some d => (y.looksAt ops).contains d || y.dst == some d | none => false) || (match y.dst with | some d => (x.looksAt ops).contains d | none => false)
theorem fold_bit {ms : List Nat} {i : Nat} : ∀ (l : List Edge) (acc : Nat), (l.foldl (maskE ms) acc).testBit i = true ↔ acc.testBit i = true ∨ ∃ e ∈ l, Region.binds .any e = true ∧ (e.on = i ∨ (ms.getD e.on 0).testBit i = true)
  | [], acc => by simp
  | e :: l, acc => by
    rw [List.foldl_cons, fold_bit l]
    unfold maskE
    cases hb : Region.binds .any e
    · simp [hb]
    · have h1 : (Nat.lor acc (Nat.lor (Nat.shiftLeft 1 e.on) (ms.getD e.on 0))).testBit i = (acc.testBit i || (decide (e.on = i) || (ms.getD e.on 0).testBit i)) := by
        show (acc ||| ((1 <<< e.on) ||| (ms.getD e.on 0))).testBit i = _
        rw [Nat.testBit_or, Nat.testBit_or, Nat.one_shiftLeft, Nat.testBit_two_pow]
      rw [cond_true, h1]
      simp only [Bool.or_eq_true, decide_eq_true_eq, List.mem_cons, exists_eq_or_imp, hb, true_and, or_assoc]
theorem masksGo_pre : ∀ (l : List Oper) (ms : List Nat), ∃ r, masksGo ms l = ms ++ r
  | [], ms => ⟨[], by simp [masksGo]⟩
  | o :: l, ms => by
    obtain ⟨r, hr⟩ := masksGo_pre l (ms ++ [maskOf ms o])
    exact ⟨maskOf ms o :: r, by rw [masksGo, hr]; simp⟩
theorem masksGo_at : ∀ (l : List Oper) (ms : List Nat) (j : Nat) (o : Oper), l[j]? = some o → ∃ ms' r, ms'.length = ms.length + j ∧ masksGo ms l = ms' ++ maskOf ms' o :: r
  | [], ms, j, o, h => by simp at h
  | p :: l, ms, 0, o, h => by
    simp at h; subst h
    obtain ⟨r, hr⟩ := masksGo_pre l (ms ++ [maskOf ms p])
    exact ⟨ms, r, rfl, by rw [masksGo, hr]; simp⟩
  | p :: l, ms, j + 1, o, h => by
    obtain ⟨ms', r, h1, h2⟩ := masksGo_at l (ms ++ [maskOf ms p]) j o (by simpa using h)
    exact ⟨ms', r, by simp at h1; omega, h2⟩
theorem edge_cases {ops : Array Oper} {j i : Nat} (hj : j < ops.size) (h : edge ops j i = true) : ∃ e ∈ (opAt ops j).after, Region.binds .any e = true ∧ (e.on = i ∨ edge ops e.on i = true) := by
  have ho : ops.toList[j]? = some (opAt ops j) := by simp [opAt, Array.getD_eq_getD_getElem?, hj]
  obtain ⟨ms', r, h1, h2⟩ := masksGo_at ops.toList [] j _ ho
  simp only [List.length_nil, Nat.zero_add] at h1
  have hm : (masks ops).getD j 0 = maskOf ms' (opAt ops j) := by
    unfold masks
    rw [h2, ← h1]; simp
  unfold edge at h
  rw [hm] at h
  unfold maskOf at h
  rw [fold_bit] at h
  rcases h with h | ⟨e, he, hb, h⟩
  · simp at h
  · refine ⟨e, Array.mem_def.2 he, hb, ?_⟩
    rcases h with h | h
    · exact .inl h
    · refine .inr ?_
      have hlt : e.on < ms'.length := by
        refine Classical.byContradiction fun c => ?_
        rw [List.getD_eq_getElem?_getD, List.getElem?_eq_none (by omega)] at h
        simp at h
      unfold edge masks
      rw [h2]
      rwa [List.getD_eq_getElem?_getD, List.getElem?_append_left hlt, ← List.getD_eq_getElem?_getD]
theorem bar_edge {ops : Array Oper} {j i : Nat} (h : bar ops j = true) (hi : i < j) : edge ops j i = true := by
  unfold bar at h
  have := Nat.eq_of_beq_eq_true h
  unfold edge
  rw [this]
  show (2 ^ j - 1).testBit i = true
  rw [Nat.testBit_two_pow_sub_one]; simpa using hi
/-- Operations that change the blocks. -/
def sk2 : Op → Bool
  | .call c => match c.callee with
    | .builtin .append => true
    | .builtin .copy => true
    | _ => false
  | o => sk o
def drawOk (ops : Array Oper) : Bool :=
  let n := ops.size
  let p := pfxGo ops n
  decide (p ≤ n) &&
  ((List.range n).all fun j => (opAt ops j).after.all fun e => !Region.binds .any e || decide (e.on < j)) &&
  ((List.range n).all fun j => (List.range j).all fun i => !clash ops (opAt ops i) (opAt ops j) || edge ops j i) &&
  ((List.range p).all fun i => nk (opAt ops i).op || sk2 (opAt ops i).op) &&
  ((List.range n).all fun j => decide (j < p) || bar ops j)

section
variable {P : Program} {N : Nat} {σ σ' : Sg} {F F' : Nat → Prop} {H H' H1 : Hp} {w w' : World} {fr fr1 : Fr} {K : AV → Hp → Prop}

def SameAt (fr fr' : Fr) (l : List Tmp) : Prop := ∀ t ∈ l, look fr t = look fr' t
def tmpsOf (o : Op) : List Tmp := o.operands.toList.filterMap fun | .tmp t => some t | _ => none

theorem ev_congr {x : Operand} (h : ∀ t, x = .tmp t → look fr t = look fr1 t) : ev fr x = ev fr1 x := by
  cases x with
  | tmp t => exact h t rfl
  | const v => rfl
  | global g => rfl
  | func f => rfl

theorem evOp_C {C C' : CallT} (hC : ∀ g args H K, C g args H K → C' g args H K) {o : Op} (h : evOp P C o fr H K) : evOp P C' o fr H K := by
  cases o <;> try exact h
  rename_i c
  obtain ⟨callee, args, tys⟩ := c
  cases callee with
  | value f =>
    simp only [evOp] at h ⊢
    generalize ev fr f = u at h ⊢
    cases u <;> try exact h
    rename_i g first cap
    cases g <;> try exact h
    exact hC _ _ _ _ h
  | invoke r m => exact h
  | builtin b => cases b <;> exact h

theorem optInt_congr {d : Int} {o : Option Operand} (h : ∀ x, o = some x → ev fr x = ev fr1 x) : optInt fr d o = optInt fr1 d o := by
  cases o with
  | none => rfl
  | some x => simp only [optInt, h x rfl]
theorem parts_congr {parts : Array (Nat × Operand)} (h : ∀ p ∈ parts, ev fr p.2 = ev fr1 p.2) : (parts.toList.map fun p => (p.1, ev fr p.2)) = (parts.toList.map fun p => (p.1, ev fr1 p.2)) := List.map_congr_left fun p hp => by
  rw [h p (by simpa using hp)]
theorem evC_congr (o : Op) (h : ∀ x ∈ o.operands, ev fr x = ev fr1 x) : evC P o fr = evC P o fr1 := by
  cases o with
  | indexAddr t x i => simp only [evC, h x (by simp [Op.operands]), h i (by simp [Op.operands])]
  | index t x i => simp only [evC, h x (by simp [Op.operands]), h i (by simp [Op.operands])]
  | convert s d x => simp only [evC, h x (by simp [Op.operands])]
  | slice t x lo hi mx =>
    have hx := h x (by simp [Op.operands])
    have hlo : ∀ d, optInt fr d lo = optInt fr1 d lo := fun d => optInt_congr fun y hy => h y (by simp [Op.operands, hy])
    have hhi : ∀ d, optInt fr d hi = optInt fr1 d hi := fun d => optInt_congr fun y hy => h y (by simp [Op.operands, hy])
    cases mx with
    | none => simp only [evC, hx, hlo, hhi]
    | some mx =>
      cases hi with
      | none => rfl
      | some hi =>
        have h1 := h hi (by simp [Op.operands])
        have h2 := h mx (by simp [Op.operands])
        simp only [evC, hx, hlo, h1, h2]
  | call c =>
    obtain ⟨callee, args, tys⟩ := c
    cases callee with
    | builtin b =>
      have ha : ∀ x ∈ args.toList, ev fr x = ev fr1 x := fun x hx => h x (by simp [Op.operands, Call.operands]; simpa using hx)
      cases b <;> try rfl
      all_goals
        simp only [evC]
        split
        · rename_i x y hl
          rw [ha x (by rw [hl]; simp), ha y (by rw [hl]; simp)]
        · rfl
    | value f => rfl
    | invoke r m => rfl
  | _ => rfl
theorem evA_congr (o : Op) (h : ∀ x ∈ o.operands, ev fr x = ev fr1 x) : evA P o fr H = evA P o fr1 H := by
  cases o with
  | box t x => simp only [evA, h x (by simp [Op.operands])]
  | makeSlice t l c => simp only [evA, h l (by simp [Op.operands]), h c (by simp [Op.operands])]
  | makeMap t r => cases r <;> rfl
  | buildSlice t n parts => simp only [evA, parts_congr (parts := parts) fun p hp => h p.2 (by simp [Op.operands]; exact ⟨p.1, by simpa using hp⟩)]
  | _ => rfl
theorem evOp_congr {C : CallT} (o : Op) (h : ∀ x ∈ o.operands, ev fr x = ev fr1 x) : evOp P C o fr H K = evOp P C o fr1 H K := by
  have hC := evC_congr (P := P) o h
  have hA := evA_congr (P := P) (H := H) o h
  cases o with
  | move x => simp only [evOp, evN, h x (by simp [Op.operands])]
  | assign x => simp only [evOp, evN, h x (by simp [Op.operands])]
  | pick c a b => simp only [evOp, h c (by simp [Op.operands]), h a (by simp [Op.operands]), h b (by simp [Op.operands])]
  | alloc t => simp only [evOp, hA]
  | box t x => simp only [evOp, hA]
  | buildSlice t n p => simp only [evOp, hA]
  | makeSlice t l c => simp only [evOp, hA]
  | makeMap t r => simp only [evOp, hA]
  | mapUpdate t m k x => simp only [evOp, h m (by simp [Op.operands]), h k (by simp [Op.operands]), h x (by simp [Op.operands])]
  | insert t m k x => simp only [evOp, h m (by simp [Op.operands]), h k (by simp [Op.operands]), h x (by simp [Op.operands])]
  | lookup t m k ok => simp only [evOp, h m (by simp [Op.operands]), h k (by simp [Op.operands])]
  | load t x => simp only [evOp, evN, h x (by simp [Op.operands])]
  | store t x y => simp only [evOp, h x (by simp [Op.operands]), h y (by simp [Op.operands])]
  | binOp op t x y u => simp only [evOp, evBinK, evN, h x (by simp [Op.operands]), h y (by simp [Op.operands])]
  | unOp op t x => cases op <;> simp only [evOp, evN, h x (by simp [Op.operands])]
  | fieldAddr s x f => simp only [evOp, evN, h x (by simp [Op.operands])]
  | field s x f => simp only [evOp, evN, h x (by simp [Op.operands])]
  | indexAddr t x i => simp only [evOp, hC]
  | index t x i => simp only [evOp, hC]
  | slice t x l hh m => simp only [evOp, hC]
  | convert s d x => simp only [evOp, hC]
  | extract x i => simp only [evOp, evN, h x (by simp [Op.operands])]
  | nilCheck x => simp only [evOp, evN, h x (by simp [Op.operands])]
  | makeFunc f a b =>
    have e1 : a.toList.map (ev fr) = a.toList.map (ev fr1) := List.map_congr_left fun x hx => h x (by simp [Op.operands]; exact .inl (by simpa using hx))
    have e2 : b.toList.map (ev fr) = b.toList.map (ev fr1) := List.map_congr_left fun x hx => h x (by simp [Op.operands]; exact .inr (by simpa using hx))
    simp only [evOp, evN, e1, e2]
  | build t parts => simp only [evOp, evN, parts_congr (parts := parts) fun p hp => h p.2 (by simp [Op.operands]; exact ⟨p.1, by simpa using hp⟩)]
  | call c =>
    obtain ⟨callee, args, tys⟩ := c
    have e : args.toList.map (ev fr) = args.toList.map (ev fr1) := List.map_congr_left fun x hx => h x (by simp [Op.operands, Call.operands]; exact .inr (by simpa using hx))
    cases callee with
    | value f =>
      have e2 := h f (by simp [Op.operands, Call.operands])
      simp only [evOp, e, e2]
    | invoke r m => rfl
    | builtin b =>
      have ha : ∀ x ∈ args.toList, ev fr x = ev fr1 x := fun x hx => h x (by simp [Op.operands, Call.operands]; simpa using hx)
      cases b <;> try rfl
      all_goals simp only [evOp, hC]
      all_goals
        split
        · rename_i hl _
          first
            | rw [ha _ (by rw [hl]; simp), ha _ (by rw [hl]; simp)]
            | rw [ha _ (by rw [hl]; simp)]
        · rfl
  | _ => rfl

/-- Blocks may have come besides. -/
def More (H H' : Hp) : Prop := ∀ id blk, H.get id = some blk → H'.get id = some blk

theorem evN_more (hm : More H H') {o : Op} {x : AV} (h : evN P o fr H = some x) : evN P o fr H' = some x := by
  have hrow : ∀ id sz i row, rowOf H id sz i = some row → rowOf H' id sz i = some row := fun id sz i row hr => by
    unfold rowOf at hr ⊢
    cases hg : H.get id with
    | none => rw [hg] at hr; cases hr
    | some b => rw [hg] at hr; rw [hm id b hg]; exact hr
  cases o with
  | load t a =>
    simp only [evN] at h ⊢
    generalize ev fr a = u at h ⊢
    cases u <;> try exact h
    rename_i id sz i j
    simp only [evLoad] at h ⊢
    cases hr : rowOf H id sz i with
    | none => rw [hr] at h; simp at h
    | some row => rw [hr] at h; rw [hrow _ _ _ _ hr]; exact h
  | unOp op t a => cases op <;> exact h
  | _ => exact h

/-- What a neutral operation gives. -/
def OpN (P : Program) (o : Op) (fr : Fr) (H : Hp) (x : AV) : Prop := evOp P (PCall P) o fr H fun y H' => y = x ∧ H' = H

theorem evTab_K {K K' : AV → Prop} (hK : ∀ x, K x → K' x) {ok : Bool} {z : AV} {n : Int} : ∀ {l : List (Int × AV)}, evTab K ok z n l → evTab K' ok z n l
  | [], h => hK _ h
  | (m, x) :: l, h => by
    simp only [evTab, onB_eq] at h ⊢
    split
    · rename_i c; rw [if_pos c] at h; exact hK _ h
    · rename_i c; rw [if_neg c] at h; exact evTab_K hK h
theorem evLook_more (hm : More H H') {t : TypeId} {m k : AV} {ok : Bool} {K K' : AV → Hp → Prop} (hK : ∀ x, K x H → K' x H') (h : evLook P t H m k ok K) : evLook P t H' m k ok K' := by
  unfold evLook at h ⊢
  split at h
  case h_2 => exact h.elim
  split at h
  case h_2 => exact h.elim
  cases hg : H.get _ with
  | none => rw [hg] at h; exact h.elim
  | some b =>
    rw [hg] at h
    rw [hm _ b hg]
    simp only at h ⊢
    split at h
    · rename_i kk p hmp
      split at h
      · rename_i k' n hd
        by_cases c : k' = kk
        · subst c
          simp only [decide_true, cond_true] at h ⊢
          split at h
          · exact hK _ h
          · exact h.elim
        · simp [c] at h
      · exact h.elim
    · rename_i kk l hmp
      split at h
      · rename_i k' n z hz
        by_cases c : k' = kk
        · subst c
          simp only [decide_true, cond_true] at h ⊢
          exact evTab_K hK h
        · simp [c] at h
      · exact h.elim
    · exact h.elim
theorem AR.slLen {sz n : Nat} {f : Nat → List FV} {v : Value} (h : AR N σ F w (.sl sz n f) v) : n ≤ 9223372036854775807 := by
  cases h with
  | sl _ _ _ _ hf =>
    cases hf with
    | sl _ _ _ A c u b off hc => unfold maxLen at hc; omega
theorem AR.hslLen {id sz off n c : Nat} {ex : Bool} {v : Value} (h : AR N σ F w (.hsl id sz off n c ex) v) : n ≤ 9223372036854775807 := by
  cases h with
  | hsl _ _ _ _ _ _ _ b o cc hs hN hl hc hx hm => unfold maxLen at hm; omega
  | hnil => omega

theorem evTab_ex {K : AV → Prop} {ok : Bool} {z : AV} {n : Int} : ∀ {l : List (Int × AV)}, evTab K ok z n l → ∃ x, K x ∧ evTab (fun y => y = x) ok z n l
  | [], h => ⟨_, h, rfl⟩
  | (m, x) :: l, h => by
    simp only [evTab, onB_eq] at h ⊢
    by_cases c : decide (n = m) = true
    · rw [if_pos c] at h; exact ⟨_, h, by rw [if_pos c]⟩
    · rw [if_neg c] at h
      obtain ⟨y, h1, h2⟩ := evTab_ex h
      exact ⟨y, h1, by rw [if_neg c]; exact h2⟩
theorem evLook_ex {t : TypeId} {m k : AV} {ok : Bool} (h : evLook P t H m k ok K) : ∃ x, K x H ∧ evLook P t H m k ok fun y H' => y = x ∧ H' = H := by
  unfold evLook at h ⊢
  split at h
  case h_2 => exact h.elim
  split at h
  case h_2 => exact h.elim
  split at h
  case h_2 => exact h.elim
  split at h
  · rename_i kk p hmp
    split at h
    · rename_i k' n hd
      by_cases c : k' = kk
      · subst c
        simp only [decide_true, cond_true] at h ⊢
        split at h
        · exact ⟨_, h, by simp⟩
        · exact h.elim
      · simp [c] at h
    · exact h.elim
  · rename_i kk l hmp
    split at h
    · rename_i k' n z hz
      by_cases c : k' = kk
      · subst c
        simp only [decide_true, cond_true] at h ⊢
        obtain ⟨x, h1, h2⟩ := evTab_ex h
        exact ⟨x, h1, evTab_K (fun y hy => by simp [hy]) h2⟩
      · simp [c] at h
    · exact h.elim
  · exact h.elim
theorem evBin_nk {C : CallT} {op : BinOp} {t : TypeId} {x y : Operand} {u : TypeId} (hk : nk (.binOp op t x y u) = true) : evOp P C (.binOp op t x y u) fr H K = asK K H (evN P (.binOp op t x y u) fr H) := by
  rcases evBinK_cases P op t x y u fr H K with ⟨hy, s, hop, _⟩ | ⟨_, he⟩
  · simp only [nk, hy, Bool.true_and, Bool.not_eq_true'] at hk
    rcases hop with ⟨rfl, _⟩ | ⟨rfl, _⟩ <;> cases hk
  · exact he
theorem neu_ex {o : Op} {a : Act} (hk : nk o = true) (h : evOp P (PCall P) o fr H K) (hf : FrRel N σ F w fr a.tmps) : ∃ x, K x H ∧ OpN P o fr H x := by
  unfold OpN
  have neu : asK K H (evN P o fr H) → ∃ x, K x H ∧ asK (fun y H' => y = x ∧ H' = H) H (evN P o fr H) := fun ha => by
    obtain ⟨y, hy, hK⟩ := asK_some ha
    exact ⟨y, hK, by rw [hy]; exact ⟨rfl, rfl⟩⟩
  have neC : asC K H (evC P o fr) → ∃ x, K x H ∧ asC (fun y H' => y = x ∧ H' = H) H (evC P o fr) := fun ha => by
    cases hz : evC P o fr with
    | none => rw [hz] at ha; exact ha.elim
    | some z => rw [hz] at ha; exact ⟨z.2, ha.2, ha.1, rfl, rfl⟩
  cases o <;> try (first | exact neu h | exact neC h | exact evLook_ex h | (simp [nk] at hk; done) | (rw [evBin_nk hk] at h; simp only [evBin_nk hk]; exact neu h))
  case pick c a b =>
    simp only [evOp] at h ⊢
    generalize ev fr c = u at h ⊢
    cases u <;> try exact h.elim
    rename_i v
    cases v <;> try exact h.elim
    rename_i t
    cases t
    · exact ⟨_, h, by simp [onB]⟩
    · exact ⟨_, h, by simp [onB]⟩
  case call c =>
    obtain ⟨callee, args, tys⟩ := c
    cases callee with
    | value f =>
      simp only [evOp] at h ⊢
      generalize ev fr f = u at h ⊢
      cases u <;> try exact h.elim
      rename_i g first cap
      cases g <;> try exact h.elim
      obtain ⟨r, hr, h1⟩ := h
      exact ⟨r, h1, r, hr, rfl, rfl⟩
    | invoke r m => exact h.elim
    | builtin b =>
      cases b <;> try (first | exact h.elim | exact neC h | (simp [nk] at hk; done))
      simp only [evOp] at h ⊢
      split at h
      case h_2 => exact h.elim
      rename_i x t ts ha ht
      have hx := ev_rel hf x
      simp only [evLen] at h ⊢
      generalize ev fr x = u at h hx ⊢
      cases hk' : kd P t with
      | none => rw [hk'] at h; exact h.elim
      | some k =>
        rw [hk'] at h
        simp only at h ⊢
        cases hd : k.desc <;> rw [hd] at h <;> simp only at h <;> try exact h.elim
        split at h
        · exact ⟨_, h (AR.slLen hx), fun _ => by simp⟩
        · exact ⟨_, h, by simp⟩
        · exact ⟨_, h, by simp⟩
        · exact h.elim

def FrAt (ops : Array Oper) (fr0 : Fr) (X : Nat → AV) (D : Nat → Bool) : Nat → Fr
  | 0 => fr0
  | k + 1 => if D k then put (FrAt ops fr0 X D k) (opAt ops k).dst (X k) else FrAt ops fr0 X D k

theorem look_put (fr : Fr) (d : Option Tmp) (x : AV) (t : Nat) : look (put fr d x) t = if d = some t then x else look fr t := by
  cases d with
  | none => simp [put]
  | some d => rw [put, look_cons]; simp

theorem FrAt_X {ops : Array Oper} {fr0 : Fr} {X Y : Nat → AV} {D : Nat → Bool} : ∀ (k : Nat), (∀ i, i < k → X i = Y i) → FrAt ops fr0 X D k = FrAt ops fr0 Y D k
  | 0, _ => rfl
  | k + 1, h => by simp only [FrAt, FrAt_X k fun i hi => h i (by omega), h k (by omega)]

/-- Two sets that agree on those that write a slot. -/
theorem FrAt_D {ops : Array Oper} {fr0 : Fr} {X : Nat → AV} {D D' : Nat → Bool} {t : Nat} : ∀ (k : Nat), (∀ i, i < k → (opAt ops i).dst = some t → D i = D' i) → look (FrAt ops fr0 X D k) t = look (FrAt ops fr0 X D' k) t
  | 0, _ => rfl
  | k + 1, h => by
    have ih := FrAt_D (fr0 := fr0) (X := X) k fun i hi hd => h i (by omega) hd
    simp only [FrAt]
    by_cases c : (opAt ops k).dst = some t
    · rw [h k (by omega) c]
      cases D' k <;> simp [look_put, ih]
    · cases D k <;> cases D' k <;> simp [look_put, ih, c]
theorem FrAt_cut {ops : Array Oper} {fr0 : Fr} {X : Nat → AV} {D : Nat → Bool} {t i : Nat} : ∀ (k : Nat), i ≤ k → (∀ j, i ≤ j → j < k → (opAt ops j).dst = some t → D j = false) → look (FrAt ops fr0 X D k) t = look (FrAt ops fr0 X D i) t
  | 0, hi, _ => by obtain rfl : i = 0 := by omega
                   rfl
  | k + 1, hi, h => by
    by_cases c : i = k + 1
    · subst c; rfl
    · have ih := FrAt_cut (fr0 := fr0) (X := X) k (by omega) fun j h1 h2 hd => h j h1 (by omega) hd
      simp only [FrAt]
      by_cases cd : (opAt ops k).dst = some t
      · rw [h k (by omega) (by omega) cd]; simpa using ih
      · cases D k <;> simp [look_put, ih, cd]

theorem FrAt_cutT {ops : Array Oper} {fr0 : Fr} {X : Nat → AV} {t i : Nat} : ∀ (k : Nat), i ≤ k → (∀ m, i ≤ m → m < k → (opAt ops m).dst ≠ some t) → look (FrAt ops fr0 X (fun _ => true) k) t = look (FrAt ops fr0 X (fun _ => true) i) t
  | 0, hi, _ => by obtain rfl : i = 0 := by omega
                   rfl
  | k + 1, hi, h => by
    by_cases c : i = k + 1
    · subst c; rfl
    · have ih := FrAt_cutT (fr0 := fr0) (X := X) k (by omega) fun m h1 h2 => h m h1 (by omega)
      simp only [FrAt, if_true]
      rw [look_put, if_neg (h k (by omega) (by omega))]; exact ih
theorem evN_congr (o : Op) (hl : isLd o = true) (h : ∀ x ∈ o.operands, ev fr x = ev fr1 x) : evN P o fr H = evN P o fr1 H := by
  cases o <;> simp [isLd] at hl
  · rename_i t x
    simp only [evN, h x (by simp [Op.operands])]
  · rfl

end
end
end Go.Proofs.YtdblhmpcilihnaaGreat.E

namespace Go.Proofs.YtdblhmpcilihnaaGreat.E
open Go
noncomputable section
set_option linter.unusedVariables false
set_option linter.unusedSimpArgs false

/-- A value names no block from n on. -/
def AV.bd (n : Nat) (x : AV) : Bool := bdN n 5 x
def bdL (n : Nat) (l : List AV) : Bool := l.all (bdN n 5)
theorem bdL_get {n : Nat} {l : List AV} (h : bdL n l = true) {i : Nat} {x : AV} (hx : l[i]? = some x) : x.bd n = true := all_get (p := bdN n 5) h hx
theorem AR.cutN {N n : Nat} {σ : Sg} {F : Nat → Prop} {w : World} {x : AV} {v : Value} (h : AR N σ F w x v) : ∀ d, bdN n d x = true → AR n σ F w x v := by
  induction h with
  | val v => exact fun _ _ => .val v
  | sl sz n f v h => exact fun _ _ => .sl sz n f v h
  | agg cs vs hl h ih =>
    intro d hx
    cases d with
    | zero => cases hx
    | succ d => exact .agg cs vs hl fun i x hi => ih i x hi d (all_get (p := bdN n d) hx hi)
  | tup cs vs hl h ih =>
    intro d hx
    cases d with
    | zero => cases hx
    | succ d => exact .tup cs vs hl fun i x hi => ih i x hi d (all_get (p := bdN n d) hx hi)
  | fptr sz n f i j u b off hi hb hl hu hr => exact fun _ _ => .fptr sz n f i j u b off hi hb hl hu hr
  | hptr id sz i j b o hs hN =>
    intro d hx
    cases d with
    | zero => cases hx
    | succ d => exact .hptr id sz i j b o hs (blt_lt hx)
  | hsl id sz off len cap ex A b o c hs hN hl hc hx' hm hA hA0 room =>
    intro d hx
    cases d with
    | zero => cases hx
    | succ d => exact .hsl id sz off len cap ex A b o c hs (blt_lt hx) hl hc hx' hm hA hA0 room
  | hnil id sz off ex hs hN =>
    intro d hx
    cases d with
    | zero => cases hx
    | succ d => exact .hnil id sz off ex hs (blt_lt hx)
  | fn f first cap v1 v2 l1 l2 h1 h2 ih1 ih2 =>
    intro d hx
    cases d with
    | zero => cases hx
    | succ d =>
      simp only [bdN, Bool.and_eq_true] at hx
      exact .fn f first cap v1 v2 l1 l2 (fun i x hi => ih1 i x hi d (all_get (p := bdN n d) hx.1 hi)) (fun i x hi => ih2 i x hi d (all_get (p := bdN n d) hx.2 hi))
  | mp id b hs hN =>
    intro d hx
    cases d with
    | zero => cases hx
    | succ d => exact .mp id b hs (blt_lt hx)
  | junk v => exact fun _ _ => .junk v
theorem AR.cut {N n : Nat} {σ : Sg} {F : Nat → Prop} {w : World} {x : AV} {v : Value} (h : AR N σ F w x v) (hx : x.bd n = true) : AR n σ F w x v := h.cutN 5 hx

/-- The frame is part of the elder one, and names no block from n on. -/
def cutFr (n : Nat) (fr : Fr) : Fr → Prop
  | [] => True
  | (t, x) :: l => (look fr t = x ∧ x.bd n = true) ∧ cutFr n fr l
/-- The blocks are some of the elder ones. -/
def cutHp (n : Nat) (H : Hp) : List (Nat × Option Blk) → Prop
  | [] => True
  | (id, some b) :: l => (H.get id = some b ∧ Nat.blt id n = true ∧ (∀ row ∈ b.rows, bdL n row = true) ∧ ∀ k l, b.mp = some (.tab k l) → ∀ q ∈ l, q.2.bd n = true) ∧ cutHp n H l
  | (_, none) :: l => cutHp n H l
theorem cutHp_get {n : Nat} {H : Hp} : ∀ {es : List (Nat × Option Blk)} {id : Nat} {b : Blk}, cutHp n H es → blkOf es id = some b → H.get id = some b ∧ Nat.blt id n = true ∧ (∀ row ∈ b.rows, bdL n row = true) ∧ ∀ k l, b.mp = some (.tab k l) → ∀ q ∈ l, q.2.bd n = true
  | [], id, b, _, hg => by simp [blkOf_nil, blkOf_cons] at hg
  | (k, ob) :: l, id, b, h, hg => by
    simp only [blkOf_nil, blkOf_cons, beq_eq] at hg
    by_cases c : k = id
    · subst c
      simp only [decide_true, cond_true] at hg
      subst hg
      exact h.1
    · simp only [c, decide_false, cond_false] at hg
      cases ob with
      | none => exact cutHp_get (es := l) h hg
      | some b' => exact cutHp_get (es := l) h.2 hg
theorem cutFr_look {n : Nat} {fr : Fr} : ∀ {fr1 : Fr}, cutFr n fr fr1 → ∀ t, look fr1 t = .junk ∨ (look fr1 t = look fr t ∧ (look fr1 t).bd n = true)
  | [], _, t => .inl rfl
  | (k, x) :: l, h, t => by
    rw [look_cons]
    by_cases c : k = t
    · subst c; rw [if_pos rfl]; exact .inr ⟨h.1.1.symm, h.1.2⟩
    · rw [if_neg c]; exact cutFr_look h.2 t

/-- The frame and the blocks are cut down. -/
theorem Wk.cut {n0 : Nat} {fr fr1 : Fr} {H H1 : Hp} (hn : Nat.ble n0 H1.next = true) (hf : cutFr H1.next fr fr1) (hH : cutHp H1.next H H1.es) : Wk n0 fr H fr1 H1 := ⟨fun σ F w tmps hn' hw hfr => by
  have hsub : ∀ id blk, H1.get id = some blk → H.get id = some blk := fun id blk hg => (cutHp_get hH hg).1
  have hx : Ext n0 σ F H w σ F H1 w := ⟨⟨hn', Nat.le_of_ble_eq_true hn⟩, fun _ _ => rfl, fun _ h => h, fun _ h => .inl h, fun _ _ _ => rfl, fun b cs el z h => ⟨cs, h, rfl⟩, fun b ⟨id, blk, o, hg, hs⟩ => .inl ⟨id, blk, o, hsub id blk hg, hs⟩, Nat.le_refl _, rfl, rfl, rfl⟩
  refine ⟨σ, F, hx, ⟨fun id blk hg => ?_, fun id id' blk blk' b o o' hg hg' => hw.inj id id' blk blk' b o o' (hsub id blk hg) (hsub id' blk' hg'), hw.frz⟩, fun t => ?_⟩
  · obtain ⟨h1, h2, h3⟩ := cutHp_get hH hg
    refine ⟨blt_lt h2, ?_⟩
    rcases (hw.own id blk h1).2 with h4 | ⟨b, o, h4, nf, ⟨cs, el, h5, h6, h8, h7⟩ | ⟨g1, g2, m, g3, g4⟩⟩
    · exact .inl h4
    · exact .inr ⟨b, o, h4, nf, .inl ⟨cs, el, h5, h6, h8, fun i row hr => ⟨(h7 i row hr).1, fun j x hx => ((h7 i row hr).2 j x hx).cut (bdL_get (h3.1 row (List.mem_of_getElem? hr)) hx)⟩⟩⟩
    · refine .inr ⟨b, o, h4, nf, .inr ⟨g1, g2, m, g3, ?_⟩⟩
      cases m with
      | bset k p => exact g4
      | tab k l =>
        obtain ⟨es, c, e1, e2, e3⟩ := g4
        exact ⟨es, c, e1, e2, fun i q hq => by obtain ⟨e, f1, f2, f3⟩ := e3 i q hq; exact ⟨e, f1, f2, f3.cut (h3.2 k l g3 q (List.mem_of_getElem? hq))⟩⟩
  · rcases cutFr_look hf t with e | ⟨e, hb⟩
    · rw [e]; exact .junk _
    · have := hfr t
      rw [← e] at this
      exact this.cut hb⟩

/-- A loop with a state. -/
theorem loop_s {S : Type} {n0 : Nat} {body : (Exit → Fr → Hp → Prop) → Fr → Hp → Prop} {Q : Exit → Fr → Hp → Prop} {fr : Fr} {H : Hp} (A : S → Fr) (T : S → Hp) (C : S → Prop) (μ : S → Nat) (s0 : S)
    (hw : Wk n0 fr H (A s0) (T s0)) (hc : C s0)
    (round : ∀ s, C s → body (fun e fr' H' => match e with | .normal => ∃ s', μ s' < μ s ∧ C s' ∧ Wk n0 fr' H' (A s') (T s') | e => Q e fr' H') (A s) (T s))
    (mono : ∀ (Q1 Q2 : Exit → Fr → Hp → Prop) fr H, (∀ e fr H, Q1 e fr H → Q2 e fr H) → body Q1 fr H → body Q2 fr H) : LoopP n0 body Q fr H := by
  refine ⟨fun m fr H => ∃ s, m = μ s ∧ fr = A s ∧ H = T s ∧ C s, ⟨μ s0, A s0, T s0, hw, s0, rfl, rfl, rfl, hc⟩, ?_⟩
  rintro m fr H ⟨s, rfl, rfl, rfl, hC⟩
  refine mono _ _ _ _ (fun e fr' H' h => ?_) (round s hC)
  cases e with
  | normal =>
    obtain ⟨s', h1, h2, h3⟩ := h
    exact ⟨μ s', A s', T s', h1, h3, s', rfl, rfl, rfl, h2⟩
  | _ => exact h

theorem asK_mono {H : Hp} {z : Option AV} {K K' : AV → Hp → Prop} (h : ∀ x H, K x H → K' x H) (hz : asK K H z) : asK K' H z := by
  cases z with
  | none => exact hz
  | some x => exact h _ _ hz
theorem onB_mono {c : Bool} {A B A' B' : Prop} (hA : A → A') (hB : B → B') (h : onB c A B) : onB c A' B' := by cases c <;> first | exact hA h | exact hB h
theorem bif_mono {c : Bool} {A A' : Prop} (hA : A → A') (h : bif c then A else False) : bif c then A' else False := by cases c <;> first | exact h | exact hA h
theorem evAppend_mono {P : Program} {t u : TypeId} {s x : AV} {H : Hp} {K K' : AV → Hp → Prop} (h : ∀ x H, K x H → K' x H) (hz : evAppend P t u s x H K) : evAppend P t u s x H K' := by
  unfold evAppend at hz ⊢
  split at hz
  case h_2 => exact hz
  refine bif_mono (fun hz => ?_) hz
  split at hz
  case h_2 => exact hz
  split at hz
  · exact ⟨hz.1, h _ _ hz.2⟩
  · refine bif_mono (fun hz => ?_) hz
    split at hz
    case h_2 => exact hz
    refine bif_mono (fun hz => ?_) hz
    split at hz
    · exact onB_mono (fun hz => ⟨hz.1, h _ _ hz.2⟩) (fun hz => ⟨hz.1, h _ _ hz.2⟩) hz
    · exact ⟨hz.1, h _ _ hz.2⟩
  · exact hz
theorem evCopy_mono {P : Program} {t : TypeId} {d x : AV} {H : Hp} {K K' : AV → Hp → Prop} (h : ∀ x H, K x H → K' x H) (hz : evCopy P t d x H K) : evCopy P t d x H K' := by
  unfold evCopy at hz ⊢
  split at hz
  case h_2 => exact hz
  split at hz
  case h_2 => exact hz
  split at hz
  case h_2 => exact hz
  refine bif_mono (fun hz => ?_) hz
  split at hz
  case h_2 => exact hz
  exact bif_mono (fun hz => ⟨hz.1, h _ _ hz.2⟩) hz
theorem evLook_mono {P : Program} {t : TypeId} {m k : AV} {H : Hp} {ok : Bool} {K K' : AV → Hp → Prop} (h : ∀ x H, K x H → K' x H) (hz : evLook P t H m k ok K) : evLook P t H m k ok K' := evLook_more (fun _ _ h => h) (fun x hx => h x H hx) hz
theorem evOp_mono {P : Program} {C : CallT} (hC : ∀ g args H K K', (∀ x H, K x H → K' x H) → C g args H K → C g args H K') {o : Op} {fr : Fr} {H : Hp} {K K' : AV → Hp → Prop} (h : ∀ x H, K x H → K' x H) (hz : evOp P C o fr H K) : evOp P C o fr H K' := by
  have neu : asK K H (evN P o fr H) → asK K' H (evN P o fr H) := asK_mono h
  have neC : asC K H (evC P o fr) → asC K' H (evC P o fr) := fun ha => by
    cases hz : evC P o fr with
    | none => rw [hz] at ha; exact ha
    | some z => rw [hz] at ha; exact ⟨ha.1, h _ _ ha.2⟩
  have neA : asA K H (evA P o fr H) → asA K' H (evA P o fr H) := fun ha => by
    cases hz : evA P o fr H with
    | none => rw [hz] at ha; exact ha
    | some z => rw [hz] at ha; exact ⟨ha.1, h _ _ ha.2⟩
  cases o <;> try (first | exact neu hz | exact neC hz | exact neA hz | exact evLook_mono h hz)
  case binOp op t x y u =>
    replace hz : evBinK P op t x y u fr H K := hz
    show evBinK P op t x y u fr H K'
    rcases evBinK_cases P op t x y u fr H K with ⟨hy, s, hop, he⟩ | ⟨hn, he⟩
    · rcases evBinK_cases P op t x y u fr H K' with ⟨_, s', hop', he'⟩ | ⟨hn', _⟩
      · have hs : s' = s := by rcases hop with ⟨rfl, rfl⟩ | ⟨rfl, rfl⟩ <;> rcases hop' with ⟨h1, rfl⟩ | ⟨h1, rfl⟩ <;> first | rfl | cases h1
        subst hs
        rw [he] at hz; rw [he']
        unfold evNil at hz ⊢
        split at hz
        case h_2 => exact hz
        split at hz
        case h_2 => exact hz
        split at hz
        · exact h _ _ hz
        · exact ⟨fun c => h _ _ (hz.1 c), fun c => ⟨h _ _ (hz.2 c).1, h _ _ (hz.2 c).2⟩⟩
        · exact ⟨fun c => h _ _ (hz.1 c), fun c => ⟨h _ _ (hz.2 c).1, h _ _ (hz.2 c).2⟩⟩
        · exact hz
      · rcases hop with ⟨rfl, _⟩ | ⟨rfl, _⟩
        · exact ((hn' hy).1 rfl).elim
        · exact ((hn' hy).2 rfl).elim
    · rcases evBinK_cases P op t x y u fr H K' with ⟨hy, s', hop', _⟩ | ⟨_, he'⟩
      · rcases hop' with ⟨rfl, _⟩ | ⟨rfl, _⟩
        · exact ((hn hy).1 rfl).elim
        · exact ((hn hy).2 rfl).elim
      · rw [he] at hz; rw [he']; exact neu hz
  case mapUpdate t m k x =>
    simp only [evOp] at hz ⊢
    cases hk : evUp P t H (ev fr m) (ev fr k) (ev fr x) with
    | none => rw [hk] at hz; exact hz
    | some k => rw [hk] at hz; exact h _ _ hz
  case insert t m k x =>
    simp only [evOp] at hz ⊢
    cases hk : evUp P t H (ev fr m) (ev fr k) (ev fr x) with
    | none => rw [hk] at hz; exact hz
    | some k => rw [hk] at hz; exact h _ _ hz
  case pick c a b =>
    simp only [evOp] at hz ⊢
    generalize ev fr c = u at hz ⊢
    cases u <;> try exact hz
    rename_i v
    cases v <;> try exact hz
    rename_i t
    cases t <;> exact h _ _ hz
  case store t x y =>
    simp only [evOp] at hz ⊢
    cases hk : evStore P t H (ev fr x) (ev fr y) with
    | none => rw [hk] at hz; exact hz
    | some k => rw [hk] at hz; exact h _ _ hz
  case call c =>
    obtain ⟨callee, args, tys⟩ := c
    cases callee with
    | value f =>
      simp only [evOp] at hz ⊢
      generalize ev fr f = u at hz ⊢
      cases u <;> try exact hz
      rename_i g first cap
      cases g <;> try exact hz
      exact hC _ _ _ _ _ h hz
    | invoke r m => exact hz
    | builtin b =>
      cases b <;> try (first | exact hz | exact neC hz)
      · simp only [evOp] at hz ⊢
        split at hz
        case h_2 => exact hz
        exact evAppend_mono h hz
      · simp only [evOp] at hz ⊢
        split at hz
        case h_2 => exact hz
        exact evCopy_mono h hz
      · simp only [evOp] at hz ⊢
        split at hz
        case h_2 => exact hz
        rename_i x t ts ha ht
        simp only [evLen] at hz ⊢
        cases hk : kd P t with
        | none => rw [hk] at hz; exact hz
        | some k =>
          rw [hk] at hz; simp only at hz ⊢
          cases hd : k.desc <;> rw [hd] at hz <;> simp only at hz ⊢ <;> try exact hz
          split at hz
          · exact fun hn => h _ _ (hz hn)
          · exact h _ _ hz
          · exact h _ _ hz
          · exact hz
theorem onG_mono {all : Array Oper} {fr : Fr} {g : Option (Nat × Bool)} {A B A' B' : Prop} (hA : A → A') (hB : B → B') (h : onG all fr g A B) : onG all fr g A' B' := by
  rw [onG_eq] at h ⊢
  split at h
  · exact hA h
  · exact hB h
  · exact h
theorem ACalls.mono {P : Program} {g : FuncId} {args : List AV} {H : Hp} {K K' : AV → Hp → Prop} (hk : ∀ x H, K x H → K' x H) (hc : ACalls P g args H K) : ACalls P g args H K' :=
  ⟨hc.ok, fun σ F w vs hw hr => (hc.run σ F w vs hw hr).mono fun e w' ⟨v, he, x, σ', F', H', hK, rest⟩ => ⟨v, he, x, σ', F', H', hk _ _ hK, rest⟩⟩
theorem HCall.mono {P : Program} {q : Bool} {g : FuncId} {args : List AV} {H : Hp} {K K' : AV → Hp → Prop} (hk : ∀ x H, K x H → K' x H) (hc : HCall P q g args H K) : HCall P q g args H K' := by
  rcases hc.p with ⟨r, h1, h2⟩ | ⟨x, n, es, h1, h2⟩ | ⟨args', r, h1, h2, h3, h4⟩
  · exact .pure h1 (hk _ _ h2)
  · exact .neu h1 (hk _ _ h2)
  · exact ⟨.inr (.inr ⟨args', r, h1, h2, h3, hk _ _ h4⟩)⟩
theorem tailC_mono {P : Program} {ops : Array Oper} {k : Nat} {g : FuncId} {args : List AV} {H : Hp} {K K' : AV → Hp → Prop} (hk : ∀ x H, K x H → K' x H) (hc : tailC P ops k g args H K) : tailC P ops k g args H K' := by
  unfold tailC at hc ⊢
  generalize Nat.ble (pfxGo ops ops.size) k = b at hc ⊢
  cases b
  · exact HCall.mono hk hc
  · exact ACalls.mono hk hc
theorem evOps_mono {P : Program} {ops : Array Oper} {Q1 Q2 : Exit → Fr → Hp → Prop} (h : ∀ e fr H, Q1 e fr H → Q2 e fr H) : ∀ (l : List Oper) (fr : Fr) (H : Hp), evOps P (ACalls P) ops Q1 l fr H → evOps P (ACalls P) ops Q2 l fr H
  | [], fr, H, hq => h _ _ _ hq
  | o :: l, fr, H, hq => by
    simp only [evOps, force_eq] at hq ⊢
    exact onG_mono (evOp_mono (fun g args H K K' hk hc => ⟨hc.ok, fun σ F w vs hw hr => (hc.run σ F w vs hw hr).mono fun e w' ⟨v, he, x, σ', F', H', hK, rest⟩ => ⟨v, he, x, σ', F', H', hk _ _ hK, rest⟩⟩) fun x H => evOps_mono h l _ _) (evOps_mono h l _ _) hq
theorem evDr_mono {P : Program} {ops : Array Oper} {Q1 Q2 : Exit → Fr → Hp → Prop} (h : ∀ e fr H, Q1 e fr H → Q2 e fr H) : ∀ (l : List Oper) (k : Nat) (acc : Acc) (fr : Fr) (H : Hp), evDr P ops Q1 k acc l fr H → evDr P ops Q2 k acc l fr H
  | [], k, acc, fr, H, hq => h _ _ _ hq
  | o :: l, k, acc, fr, H, hq => by
    simp only [evDr, force_eq] at hq ⊢
    exact onG_mono (evOp_mono (C := tailC P ops k) (fun g args H K K' hk hc => tailC_mono hk hc) fun x H hd => dyn_mono (fun acc hr => evDr_mono h l _ _ _ _ hr) hd) (evDr_mono h l _ _ _ _) hq
theorem evWp_mono {P : Program} {n0 : Nat} (c : Code) : ∀ (Q1 Q2 : Exit → Fr → Hp → Prop) (fr : Fr) (H : Hp), (∀ e fr H, Q1 e fr H → Q2 e fr H) → evWp P n0 c Q1 fr H → evWp P n0 c Q2 fr H := by
  induction c with
  | skip => exact fun Q1 Q2 fr H h hq => h _ _ _ hq
  | region id ops d =>
    intro Q1 Q2 fr H h hq
    cases d
    · exact evOps_mono h _ _ _ hq
    · exact evDr_mono h _ _ _ _ _ hq
  | seq a b iha ihb =>
    intro Q1 Q2 fr H h hq
    refine iha (seqK n0 (evWp P n0 b) Q1) (seqK n0 (evWp P n0 b) Q2) _ _ (fun e fr H he => ?_) hq
    cases e with
    | normal =>
      obtain ⟨fr1, H1, hk, hq⟩ := SeqW.p he
      exact SeqW.mk ⟨fr1, H1, hk, ihb _ _ _ _ h hq⟩
    | _ => exact h _ _ _ he
  | cond c a b iha ihb =>
    intro Q1 Q2 fr H h hq
    replace hq : condW (ev fr c) (evWp P n0 a Q1 fr H) (evWp P n0 b Q1 fr H) := hq
    show condW (ev fr c) (evWp P n0 a Q2 fr H) (evWp P n0 b Q2 fr H)
    generalize ev fr c = u at hq ⊢
    cases u <;> try exact hq
    rename_i v
    cases v <;> try exact hq
    rename_i t
    cases t
    · exact ihb _ _ _ _ h hq
    · exact iha _ _ _ _ h hq
  | block id b ih =>
    intro Q1 Q2 fr H h hq
    refine ih (blockK id Q1) (blockK id Q2) _ _ (fun e fr H he => ?_) hq
    cases e with
    | exit i =>
      replace he : (bif Nat.beq i id then Q1 .normal fr H else Q1 (.exit i) fr H) := he
      show (bif Nat.beq i id then Q2 .normal fr H else Q2 (.exit i) fr H)
      cases hb : Nat.beq i id <;> rw [hb] at he <;> exact h _ _ _ he
    | _ => exact h _ _ _ he
  | loop b ih =>
    intro Q1 Q2 fr H h hq
    replace hq : LoopC P n0 b (evWp P n0 b) Q1 fr H := hq
    obtain ⟨Inv, h1, h2⟩ := hq.p.ex
    refine LoopC.mk ⟨Inv, h1, fun m fr H hi => ih _ _ _ _ (fun e fr H he => ?_) (h2 m fr H hi)⟩
    cases e with
    | normal => exact he
    | _ => exact h _ _ _ he
  | exit id => exact fun Q1 Q2 fr H h hq => h _ _ _ hq
  | ret => exact fun Q1 Q2 fr H h hq => h _ _ _ hq
  | label l => exact fun Q1 Q2 fr H h hq => h _ _ _ hq
  | scope b ih =>
    intro Q1 Q2 fr H h hq
    refine ih (scopeK (GotoC P n0 b Q1) Q1) (scopeK (GotoC P n0 b Q2) Q2) _ _ (fun e fr H he => ?_) hq
    cases e with
    | goto l =>
      replace he : GotoC P n0 b Q1 l fr H := he
      obtain ⟨rest, hf, hr⟩ := he.p
      refine GotoC.mk ⟨rest, hf, fun D B hB hD hok a w hs => wp_mono (hr D B hB hD hok a w hs) fun e a w hq => ?_⟩
      obtain ⟨fr2, H2, hq, hs2⟩ := hq
      refine ⟨fr2, H2, ?_, hs2⟩
      cases e with
      | goto l => exact hq
      | _ => exact h _ _ _ hq
    | _ => exact h _ _ _ he
  | goto l => exact fun Q1 Q2 fr H h hq => h _ _ _ hq
  | rangeFunc => exact fun Q1 Q2 fr H h hq => hq
  | refuse => exact fun Q1 Q2 fr H h hq => hq

theorem loop_st {S : Type} {P : Program} {n0 : Nat} {c : Code} {W : WpT} {Q : Exit → Fr → Hp → Prop} {fr : Fr} {H : Hp} (A : S → Fr) (T : S → Hp) (C : S → Prop) (μ : S → Nat) (s0 : S)
    (hw : Wk n0 fr H (A s0) (T s0)) (hc : C s0)
    (round : ∀ s, C s → evWp P n0 c (fun e fr' H' => match e with | .normal => ∃ s', μ s' < μ s ∧ C s' ∧ Wk n0 fr' H' (A s') (T s') | e => Q e fr' H') (A s) (T s)) (hW : W = evWp P n0 c := by rfl) : LoopC P n0 c W Q fr H := by
  subst hW
  exact ⟨loop_s A T C μ s0 hw hc round (evWp_mono c)⟩
theorem SeqW.go {n0 : Nat} {b : WpT} {Q : Exit → Fr → Hp → Prop} {fr : Fr} {H : Hp} (h : b Q fr H) : SeqW n0 b Q fr H := ⟨⟨fr, H, Wk.refl _ _ _, h⟩⟩
theorem SeqW.wk {n0 : Nat} {b : WpT} {Q : Exit → Fr → Hp → Prop} {fr fr1 : Fr} {H H1 : Hp} (hk : Wk n0 fr H fr1 H1) (h : b Q fr1 H1) : SeqW n0 b Q fr H := ⟨⟨fr1, H1, hk, h⟩⟩
/-- A cut: what stands behind is proved once. -/
theorem seq_cut {P : Program} {n0 : Nat} {a b : Code} {Q : Exit → Fr → Hp → Prop} {fr : Fr} {H : Hp} (M : Fr → Hp → Prop)
    (h1 : evWp P n0 a (fun e fr H => match e with | .normal => M fr H | e => Q e fr H) fr H) (h2 : ∀ fr H, M fr H → evWp P n0 b Q fr H) : evWp P n0 (.seq a b) Q fr H := by
  refine evWp_mono a _ (seqK n0 (evWp P n0 b) Q) _ _ (fun e fr H he => ?_) h1
  cases e with
  | normal => exact ⟨⟨fr, H, Wk.refl _ _ _, h2 _ _ he⟩⟩
  | _ => exact he
end
end Go.Proofs.YtdblhmpcilihnaaGreat.E

namespace Go.Proofs.YtdblhmpcilihnaaGreat.E
open Go
noncomputable section
set_option linter.unusedVariables false
set_option linter.unusedSimpArgs false

theorem AR.unup {N : Nat} {σ : Sg} {F : Nat → Prop} {w : World} {x : FV} {v : Value} (h : AR N σ F w x.up v) : FRel F w x v := by
  cases x with
  | val u => cases h; exact .val _
  | sl sz n f => cases h with | sl _ _ _ _ h => exact h

theorem AR.ren {ρ : Nat → Nat} {N N1 : Nat} {σ : Sg} {F : Nat → Prop} {w : World} : ∀ (d : Nat) (x : AV) (v : Value), bdN N1 d x = true → AR N σ F w (renN ρ d x) v → AR N1 (fun k => σ (ρ k)) F w x v := by
  intro d
  induction d with
  | zero => intro x v h; cases h
  | succ d ih =>
    intro x v hb h
    cases x with
    | val u => cases h; exact .val _
    | sl sz n f => cases h with | sl _ _ _ _ h => exact .sl _ _ _ _ h
    | agg cs => cases h with
      | agg _ vs hl hh => exact .agg cs vs (by simpa using hl) fun i x hi => ih x _ (all_get (p := bdN N1 d) hb hi) (hh i (renN ρ d x) (by simp [hi]))
    | tup cs => cases h with
      | tup _ vs hl hh => exact .tup cs vs (by simpa using hl) fun i x hi => ih x _ (all_get (p := bdN N1 d) hb hi) (hh i (renN ρ d x) (by simp [hi]))
    | fptr sz n f i j => cases h with | fptr _ _ _ _ _ u b off hi hb' hl hu hr => exact .fptr sz n f i j u b off hi hb' hl hu hr
    | hptr id sz i j => cases h with | hptr _ _ _ _ b o hs hN => exact .hptr id sz i j b o hs (blt_lt hb)
    | hsl id sz off len cap ex => cases h with
      | hsl _ _ _ _ _ _ A b o c hs hN hl hc hx hm hA hA0 room => exact .hsl id sz off len cap ex A b o c hs (blt_lt hb) hl hc hx hm hA hA0 room
      | hnil _ _ _ _ hs hN => exact .hnil id sz off ex hs (blt_lt hb)
    | fn f a b => cases h with
      | fn _ _ _ v1 v2 l1 l2 h1 h2 =>
        simp only [bdN, Bool.and_eq_true] at hb
        exact .fn f a b v1 v2 (by simpa using l1) (by simpa using l2) (fun i x hi => ih x _ (all_get (p := bdN N1 d) hb.1 hi) (h1 i (renN ρ d x) (by simp [hi]))) (fun i x hi => ih x _ (all_get (p := bdN N1 d) hb.2 hi) (h2 i (renN ρ d x) (by simp [hi])))
    | mp id => cases h with | mp _ b hs hN => exact .mp id b hs (blt_lt hb)
    | junk => exact .junk _

def reFr (ρ : Nat → Nat) (n : Nat) (fr : Fr) : Fr → Prop
  | [] => True
  | (t, x) :: l => (look fr t = renN ρ 5 x ∧ x.bd n = true) ∧ reFr ρ n fr l
/-- A block's rows under their new numbers: either no row names a block, or each does as it should. -/
def reRow (ρ : Nat → Nat) (n : Nat) (r r1 : List (List AV)) : Prop := (r = r1 ∧ ∀ row ∈ r1, freeL row = true) ∨ (r = r1.map (fun row => row.map (renN ρ 5)) ∧ ∀ row ∈ r1, bdL n row = true)
def reHp (ρ : Nat → Nat) (n : Nat) (H : Hp) : List (Nat × Option Blk) → Prop
  | [] => True
  | (id, some b) :: l => (Nat.blt id n = true ∧ ∃ r, H.get (ρ id) = some ⟨b.sz, r, b.mp⟩ ∧ reRow ρ n r b.rows ∧ ∀ k l, b.mp ≠ some (.tab k l)) ∧ reHp ρ n H l
  | (_, none) :: l => reHp ρ n H l
theorem reHp_get {ρ : Nat → Nat} {n : Nat} {H : Hp} : ∀ {es : List (Nat × Option Blk)} {id : Nat} {b : Blk}, reHp ρ n H es → blkOf es id = some b →
    Nat.blt id n = true ∧ (∃ r, H.get (ρ id) = some ⟨b.sz, r, b.mp⟩ ∧ reRow ρ n r b.rows ∧ ∀ k l, b.mp ≠ some (.tab k l)) ∧ id ∈ es.map (·.1)
  | [], id, b, _, hg => by simp [blkOf_nil, blkOf_cons] at hg
  | (k, ob) :: l, id, b, h, hg => by
    simp only [blkOf_nil, blkOf_cons, beq_eq] at hg
    by_cases c : k = id
    · subst c
      simp only [decide_true, cond_true] at hg
      subst hg
      exact ⟨h.1.1, h.1.2, by simp⟩
    · simp only [c, decide_false, cond_false] at hg
      cases ob with
      | none => obtain ⟨h1, h2, h3⟩ := reHp_get (es := l) h hg; exact ⟨h1, h2, by simp [h3]⟩
      | some b' => obtain ⟨h1, h2, h3⟩ := reHp_get (es := l) h.2 hg; exact ⟨h1, h2, by simp [h3]⟩
theorem reFr_look {ρ : Nat → Nat} {n : Nat} {fr : Fr} : ∀ {fr1 : Fr}, reFr ρ n fr fr1 → ∀ t, look fr1 t = .junk ∨ (look fr t = renN ρ 5 (look fr1 t) ∧ (look fr1 t).bd n = true)
  | [], _, t => .inl rfl
  | (k, x) :: l, h, t => by
    rw [look_cons]
    by_cases c : k = t
    · subst c; rw [if_pos rfl]; exact .inr h.1
    · rw [if_neg c]; exact reFr_look h.2 t

/-- Blocks have new numbers, some are left. -/
theorem Wk.re {n0 : Nat} {fr fr1 : Fr} {H H1 : Hp} (ρ : Nat → Nat) (hn : Nat.ble n0 H1.next = true) (hρ : ∀ id, id < n0 → ρ id = id) (hinj : ∀ a ∈ H1.es.map (·.1), ∀ b ∈ H1.es.map (·.1), ρ a = ρ b → a = b)
    (hf : reFr ρ H1.next fr fr1) (hH : reHp ρ H1.next H H1.es) : Wk n0 fr H fr1 H1 := ⟨fun σ F w tmps hn' hw hfr => by
  have hx : Ext n0 σ F H w (fun k => σ (ρ k)) F H1 w := ⟨⟨hn', Nat.le_of_ble_eq_true hn⟩, fun id hid => by rw [hρ id hid], fun _ h => h, fun _ h => .inl h, fun _ _ _ => rfl, fun b cs el z h => ⟨cs, h, rfl⟩, fun b ⟨id, blk, o, hg, hs⟩ => by
    obtain ⟨_, ⟨r, h1, _⟩, _⟩ := reHp_get hH hg
    exact .inl ⟨ρ id, _, o, h1, hs⟩, Nat.le_refl _, rfl, rfl, rfl⟩
  refine ⟨_, F, hx, ⟨fun id blk hg => ?_, fun id id' blk blk' b o o' hg hg' hs hs' => ?_, hw.frz⟩, fun t => ?_⟩
  · obtain ⟨h1, ⟨r, h2, h3, hm⟩, _⟩ := reHp_get hH hg
    refine ⟨blt_lt h1, ?_⟩
    rcases (hw.own _ _ h2).2 with ⟨h4, h5, h6⟩ | ⟨b, o, h4, nf, ⟨cs, el, h5, h6, h8, h7⟩ | ⟨g1, g2, m, g3, g4⟩⟩
    · refine .inl ⟨?_, h5, h6⟩
      rcases h3 with ⟨e, _⟩ | ⟨e, _⟩
      · exact e.symm.trans h4
      · simp only at h4; rw [h4] at e; exact List.map_eq_nil_iff.1 e.symm
    · refine .inr ⟨b, o, h4, nf, .inl ⟨cs, el, h5, ?_, h8, fun i row hr => ?_⟩⟩
      · rcases h3 with ⟨e, _⟩ | ⟨e, _⟩
        · rw [e] at h6; exact h6
        · rw [e] at h6; simpa using h6
      · rcases h3 with ⟨e, e1⟩ | ⟨e, e1⟩
        · rw [e] at h7
          refine ⟨(h7 i row hr).1, fun j x hx => ?_⟩
          have := (h7 i row hr).2 j x hx
          exact this.toFree (freeL_get (e1 row (List.mem_of_getElem? hr)) hx)
        · rw [e] at h7
          have h9 := h7 i (row.map (renN ρ 5)) (by simp [hr])
          refine ⟨by simpa using h9.1, fun j x hx => ?_⟩
          exact (h9.2 j (renN ρ 5 x) (by simp [hx])).ren 5 x _ (bdL_get (e1 row (List.mem_of_getElem? hr)) hx)
    · refine .inr ⟨b, o, h4, nf, .inr ⟨?_, g2, m, g3, ?_⟩⟩
      · rcases h3 with ⟨e, _⟩ | ⟨e, _⟩
        · exact e.symm.trans g1
        · simp only at g1; rw [g1] at e; exact List.map_eq_nil_iff.1 e.symm
      · cases m with
        | bset k p => exact g4
        | tab k l => exact absurd g3 (hm k l)
  · obtain ⟨_, ⟨r, h1, _⟩, h2⟩ := reHp_get hH hg
    obtain ⟨_, ⟨r', h1', _⟩, h2'⟩ := reHp_get hH hg'
    exact hinj id h2 id' h2' (hw.inj _ _ _ _ b o o' h1 h1' hs hs')
  · rcases reFr_look hf t with e | ⟨e, hb⟩
    · rw [e]; exact .junk _
    · have := hfr t
      rw [e] at this
      exact this.ren 5 _ _ hb⟩

def FzL (R : AV → AV → Prop) : List AV → List AV → Prop
  | [], [] => True
  | a :: l, b :: m => R a b ∧ FzL R l m
  | _, _ => False
/-- A value in which the slices of one block are frozen. -/
def FzR (id : Nat) (blk : Blk) : Nat → AV → AV → Prop
  | 0, x, y => x = y
  | d + 1, x, y => match x, y with
    | .agg l, .agg m => FzL (FzR id blk d) l m
    | .tup l, .tup m => FzL (FzR id blk d) l m
    | .hsl id' sz off len cap ex, .sl sz' n f => ((id' = id ∧ sz = blk.sz) ∧ sz' = sz ∧ n = len) ∧ ∀ i, i < len → blk.rows[off + i]? = some ((f i).map FV.up)
    | x, y => x = y
theorem FzL_get {R : AV → AV → Prop} : ∀ {l m : List AV}, FzL R l m → l.length = m.length ∧ ∀ (i : Nat) (b : AV), m[i]? = some b → ∃ a, l[i]? = some a ∧ R a b
  | [], [], _ => ⟨rfl, fun i b hb => by simp at hb⟩
  | a :: l, b :: m, h => by
    obtain ⟨h1, h2⟩ := FzL_get h.2
    refine ⟨by simp [h1], fun i x hx => ?_⟩
    cases i with
    | zero => simp at hx; subst hx; exact ⟨a, rfl, h.1⟩
    | succ i => simpa using h2 i x (by simpa using hx)
  | [], _ :: _, h => h.elim
  | _ :: _, [], h => h.elim

theorem Wk.freeze {n0 : Nat} {fr : Fr} {H : Hp} {t id : Nat} {blk : Blk} {x1 : AV} (hg : H.get id = some blk) (hx : FzR id blk 4 (look fr t) x1) : Wk n0 fr H ((t, x1) :: fr) (H.set id none) := ⟨fun σ F w tmps hn hw hfr => by
  have hset : ∀ k b, (H.set id none).get k = some b → k ≠ id ∧ H.get k = some b := fun k b h => by
    simp only [Hp.set, Hp.get, blkOf_nil, blkOf_cons, beq_eq] at h
    by_cases c : id = k
    · subst c; simp at h
    · simp [c] at h; exact ⟨fun e => c e.symm, h⟩
  have hF' : ∀ b, (F b ∨ ∃ o, σ id = some (b, o)) → b < w.heap.size := fun b hb => by
    rcases hb with h | ⟨o, h⟩
    · exact hw.frz b h
    · exact hw.liveLt ⟨id, blk, o, hg, h⟩
  have hX : Ext n0 σ F H w σ (fun b => F b ∨ ∃ o, σ id = some (b, o)) (H.set id none) w :=
    ⟨⟨hn, hn⟩, fun _ _ => rfl, fun _ h => .inl h, fun b hb => hb.elim .inl (fun ⟨o, h⟩ => .inr (.inr ⟨id, blk, o, hg, h⟩)), fun _ _ _ => rfl, fun b cs el z h => ⟨cs, h, rfl⟩, fun b ⟨k, bl, o, h1, h2⟩ => .inl ⟨k, bl, o, (hset k bl h1).2, h2⟩, Nat.le_refl _, rfl, rfl, rfl⟩
  refine ⟨σ, fun b => F b ∨ ∃ o, σ id = some (b, o), hX, ⟨fun k b h => ?_, fun k k' b b' c o o' h h' => hw.inj k k' b b' c o o' (hset k b h).2 (hset k' b' h').2, hF'⟩, fun s => ?_⟩
  · obtain ⟨hk, h1⟩ := hset k b h
    refine ⟨(hw.own k b h1).1, ?_⟩
    rcases (hw.own k b h1).2 with h2 | ⟨c, o, h2, h3⟩
    · exact .inl h2
    · refine .inr ⟨c, o, h2, h3.mono (fun id hid => ⟨hid, rfl⟩) (fun _ h => .inl h) (fun _ _ => rfl) (fun b cs el z h => ⟨cs, h, rfl⟩) rfl fun hc => ?_⟩
      rcases hc with hc | ⟨o', hc⟩
      · exact h3.nf hc
      · exact hk (hw.inj k id b blk c o o' h1 hg h2 hc)
  · have lift : ∀ (x : AV) (v : Value), AR H.next σ F w x v → AR H.next σ (fun b => F b ∨ ∃ o, σ id = some (b, o)) w x v := fun x v h =>
      h.mono (fun id hid => ⟨hid, rfl⟩) (fun _ h => .inl h) (fun _ _ => rfl) (fun b cs el z h => ⟨cs, h, rfl⟩)
    have key : ∀ (d : Nat) (x y : AV) (v : Value), FzR id blk d x y → AR H.next σ F w x v → AR H.next σ (fun b => F b ∨ ∃ o, σ id = some (b, o)) w y v := by
      intro d
      induction d with
      | zero => intro x y v e h; cases e; exact lift _ _ h
      | succ d ih =>
        intro x y v e h
        unfold FzR at e
        split at e
        · cases h with
          | agg _ vs hl hh => obtain ⟨e1, e2⟩ := FzL_get e; exact .agg _ vs (by omega) fun i b hb => by obtain ⟨a, ha, hab⟩ := e2 i b hb; exact ih a b _ hab (hh i a ha)
        · cases h with
          | tup _ vs hl hh => obtain ⟨e1, e2⟩ := FzL_get e; exact .tup _ vs (by omega) fun i b hb => by obtain ⟨a, ha, hab⟩ := e2 i b hb; exact ih a b _ hab (hh i a ha)
        · rename_i id' sz off len cap ex sz' n f
          obtain ⟨⟨⟨rfl, hsz⟩, rfl, rfl⟩, hrow⟩ := e
          cases h with
          | hnil _ _ _ _ hs hN => exact .sl _ _ _ _ (.sl _ _ _ none 0 (fun _ _ => undef) 0 0 (by simp) (fun h => absurd h (by omega)) (fun i hi => absurd hi (by omega)) (fun i j hi => absurd hi (by omega)) (fun i j x hi => absurd hi (by omega)))
          | hsl _ _ _ _ _ _ A b o c hs hN hl hc hx' hm hA hA0 room =>
            rcases (hw.own _ _ hg).2 with ⟨h1, h2, h3⟩ | ⟨b2, o2, h2, nf, ⟨cs, el, h5, h6, h8, h7⟩ | ⟨g1, g2, m, g3, g4⟩⟩
            · rw [hs] at h2; cases h2
            · rw [hs] at h2; cases h2
              refine .sl _ _ _ _ (.sl sz' n f A c (fun i j => cs.getD (o + ((off + i) * blk.sz + j)) undef) b (o + off * sz') ⟨by omega, hm⟩ (fun h => ⟨hA (by omega), .inr ⟨o, hs⟩⟩) (fun i hi => ?_) (fun i j hi hj => ?_) (fun i j x hi hxx => ?_))
              · have := (h7 _ _ (hrow i hi)).1
                rw [List.length_map] at this
                omega
              · have h9 := (h7 _ _ (hrow i hi)).1
                have hb := (List.getElem?_eq_some_iff.1 (hrow i hi)).1
                have hlt : o + ((off + i) * blk.sz + j) < cs.size := by
                  have : (off + i + 1) * blk.sz ≤ blk.rows.length * blk.sz := Nat.mul_le_mul_right _ hb
                  rw [Nat.add_mul, Nat.one_mul] at this
                  omega
                have e1 : o + off * sz' + (i * sz' + j) = o + ((off + i) * blk.sz + j) := by rw [hsz, Nat.add_mul]; omega
                rw [e1]
                simp [World.cell?, h5, Array.getD_eq_getD_getElem?, hlt]
              · have h9 := (h7 _ _ (hrow i hi)).2 j x.up (by simp [hxx])
                exact h9.unup.mono (fun _ h => .inl h) (fun _ _ => rfl)
            · rw [hs] at h2; cases h2
              have := hrow
              obtain ⟨cs, el, q1, q2⟩ := room
              have hm' := g4.lt
              obtain ⟨es, ck, hm'⟩ := hm'
              rw [q1] at hm'; cases hm'
        · cases e; exact lift _ _ h
    rw [look_cons]
    by_cases c : t = s
    · subst c; rw [if_pos rfl]; exact key 4 _ _ _ hx (hfr t)
    · rw [if_neg c]; exact lift _ _ (hfr s)⟩

/-- The slice nil is a slice of a block without rows. -/
theorem Wk.phantom {n0 : Nat} {fr : Fr} {H : Hp} (t sz : Nat) (ht : look fr t = .val (.slice none 0 0)) : Wk n0 fr H ((t, .hsl H.next sz 0 0 0 false) :: fr) (H.push ⟨sz, [], none⟩) := ⟨fun σ F w tmps hn hw hfr => by
  have hget : ∀ k b, (H.push ⟨sz, [], none⟩).get k = some b → (k = H.next ∧ b = ⟨sz, [], none⟩) ∨ (k ≠ H.next ∧ H.get k = some b) := fun k b h => by
    simp only [Hp.push, Hp.get, blkOf_nil, blkOf_cons, beq_eq] at h
    by_cases c : H.next = k
    · subst c; simp at h; exact .inl ⟨rfl, h.symm⟩
    · simp [c] at h; exact .inr ⟨fun e => c e.symm, h⟩
  have hs : ∀ id, id < H.next → id < H.next + 1 ∧ (if id = H.next then none else σ id) = σ id := fun id hid => ⟨by omega, if_neg (by omega)⟩
  have hX : Ext n0 σ F H w (fun k => if k = H.next then none else σ k) F (H.push ⟨sz, [], none⟩) w :=
    ⟨⟨hn, Nat.le_succ_of_le hn⟩, fun id hid => (hs id (by omega)).2, fun _ h => h, fun _ h => .inl h, fun _ _ _ => rfl, fun b cs el z h => ⟨cs, h, rfl⟩, fun b ⟨k, bl, o, h1, h2⟩ => by
      rcases hget k bl h1 with ⟨rfl, _⟩ | ⟨hk, h3⟩
      · simp at h2
      · simp only [if_neg hk] at h2; exact .inl ⟨k, bl, o, h3, h2⟩, Nat.le_refl _, rfl, rfl, rfl⟩
  have lift : ∀ (x : AV) (v : Value), AR H.next σ F w x v → AR (fun id => id < H.next + 1) (fun k => if k = H.next then none else σ k) F w x v := fun x v h =>
    h.mono hs (fun _ h => h) (fun _ _ => rfl) (fun b cs el z h => ⟨cs, h, rfl⟩)
  refine ⟨_, F, hX, ⟨fun k b h => ?_, fun k k' b b' c o o' h h' h1 h1' => ?_, hw.frz⟩, fun s => ?_⟩
  · rcases hget k b h with ⟨rfl, rfl⟩ | ⟨hk, h1⟩
    · exact ⟨Nat.lt_succ_self _, .inl ⟨rfl, by simp, rfl⟩⟩
    · have hlt := (hw.own k b h1).1
      refine ⟨Nat.lt_succ_of_lt hlt, ?_⟩
      rcases (hw.own k b h1).2 with ⟨h2, h3, h4⟩ | ⟨c, o, h2, h3⟩
      · exact .inl ⟨h2, by rw [if_neg hk]; exact h3, h4⟩
      · exact .inr ⟨c, o, by rw [if_neg hk]; exact h2, h3.mono hs (fun _ h => h) (fun _ _ => rfl) (fun b cs el z h => ⟨cs, h, rfl⟩) rfl h3.nf⟩
  · rcases hget k b h with ⟨rfl, _⟩ | ⟨hk, h2⟩
    · simp at h1
    · rcases hget k' b' h' with ⟨rfl, _⟩ | ⟨hk', h2'⟩
      · simp at h1'
      · simp only [if_neg hk] at h1
        simp only [if_neg hk'] at h1'
        exact hw.inj k k' b b' c o o' h2 h2' h1 h1'
  · rw [look_cons]
    by_cases c : t = s
    · subst c
      rw [if_pos rfl]
      have := hfr t
      rw [ht] at this
      generalize tmps.getD t undef = v at this
      cases this
      exact .hnil _ _ _ _ (by simp) (Nat.lt_succ_self _)
    · rw [if_neg c]; exact lift _ _ (hfr s)⟩
end
end Go.Proofs.YtdblhmpcilihnaaGreat.E

namespace Go.Proofs.YtdblhmpcilihnaaGreat.E
open Go
noncomputable section
set_option linter.unusedVariables false
set_option linter.unusedSimpArgs false

/-- A type whose values may be compared by their fields: looked at once, by the kernel. -/
def tyOk (P : Program) : Nat → TypeId → Bool
  | 0, _ => false
  | d + 1, t => match kd P t with
    | some k => match k.desc with
      | .struct fs => !P.stoodInHeld t && fs.toList.all fun f => tyOk P d f.type
      | _ => true
    | none => true
def eqOk (P : Program) (t : TypeId) : Bool := !P.eqGuardType P.depth t && tyOk P 10 t
def eqvL (P : Program) : Nat → TypeId → AV → AV → Option Bool
  | 0, _, _, _ => none
  | d + 1, t, x, y => match kd P t with
    | some k => match k.desc with
      | .bool => match x, y with
        | .val (.bool a), .val (.bool b) => some (a == b)
        | _, _ => none
      | .int _ => match x, y with
        | .val (.int k a), .val (.int k' b) => bif decide (k = k') then some (a == b) else none
        | _, _ => none
      | .string => match x, y with
        | .val (.string a), .val (.string b) => some (a.toList == b.toList)
        | _, _ => none
      | .struct fs => match x, y with
        | .agg xs, .agg ys => bif fs.toList.any (fun f => decide (f.name = "_")) then none else eqF (eqvL P d) P xs ys fs.toList
        | _, _ => none
      | _ => none
    | none => none
theorem eqF_congr {r r' : TypeId → AV → AV → Option Bool} {P : Program} {xs ys : List AV} : ∀ {fs : List Field}, (∀ f ∈ fs, ∀ a b, r f.type a b = r' f.type a b) → eqF r P xs ys fs = eqF r' P xs ys fs
  | [], _ => rfl
  | f :: fs, h => by
    have ih := eqF_congr (r := r) (r' := r') (P := P) (xs := xs) (ys := ys) (fs := fs) (fun g hg => h g (List.mem_cons_of_mem _ hg))
    have h0 := h f List.mem_cons_self
    unfold eqF
    rw [ih]
    simp only [h0]
theorem eqv_eqvL {P : Program} : ∀ (n d : Nat) (t : TypeId) (x y : AV), tyOk P d t = true → eqv P n t x y = eqvL P n t x y
  | 0, _, _, _, _, _ => rfl
  | n + 1, 0, t, x, y, h => by cases h
  | n + 1, d + 1, t, x, y, h => by
    unfold eqv eqvL
    unfold tyOk at h
    cases hk : kd P t with
    | none => rfl
    | some k =>
      rw [hk] at h
      simp only at h ⊢
      cases hd : k.desc with
      | struct fs =>
        rw [hd] at h
        simp only [Bool.and_eq_true, Bool.not_eq_true', List.all_eq_true] at h
        simp only [h.1, Bool.false_or]
        cases x <;> cases y <;> try rfl
        rename_i xs ys
        simp only
        rw [eqF_congr fun f hf a b => eqv_eqvL n d f.type a b (h.2 f hf)]
      | _ => rfl
def evEqL (P : Program) (op : BinOp) (t : TypeId) (x y : AV) : Option AV :=
  match op with
  | .eql => (eqvL P 10000 t x y).map fun b => .val (.bool b)
  | .neq => (eqvL P 10000 t x y).map fun b => .val (.bool (!b))
  | _ => none
def evBinL (P : Program) (op : BinOp) (t : TypeId) (x y : AV) : Option AV :=
  match evBin op x y with
  | some z => some z
  | none => evEqL P op t x y
/-- A comparison of values of a type that the kernel has looked at. -/
theorem evN_cmp {P : Program} {op : BinOp} {t : TypeId} {x y : Operand} {t' : TypeId} {fr : Fr} {H : Hp} (h : eqOk P t = true) : evN P (.binOp op t x y t') fr H = evBinL P op t (ev fr x) (ev fr y) := by
  unfold eqOk at h
  simp only [Bool.and_eq_true, Bool.not_eq_true'] at h
  show evBinP P op t (ev fr x) (ev fr y) = _
  unfold evBinP evBinL
  cases evBin op (ev fr x) (ev fr y) with
  | some z => rfl
  | none =>
    simp only
    unfold evEq evEqL
    cases op <;> simp only [h.1, cond_false, eqv_eqvL 10000 10 t _ _ h.2]
end
end Go.Proofs.YtdblhmpcilihnaaGreat.E

namespace Go.Proofs.YtdblhmpcilihnaaGreat.E
open Go
noncomputable section
set_option linter.unusedVariables false
set_option linter.unusedSimpArgs false

/-- A value under new numbers. -/
theorem AR.renF {ρ : Nat → Nat} {N N1 : Nat} {σ σ1 : Sg} {F : Nat → Prop} {w : World} (hρ : ∀ id, id < N → ρ id < N1 ∧ σ1 (ρ id) = σ id) : ∀ (d : Nat) (x : AV) (v : Value), bdN N d x = true → AR N σ F w x v → AR N1 σ1 F w (renN ρ d x) v := by
  intro d
  induction d with
  | zero => intro x v h; cases h
  | succ d ih =>
    intro x v hb h
    cases x with
    | val u => cases h; exact .val _
    | sl sz n f => cases h with | sl _ _ _ _ h => exact .sl _ _ _ _ h
    | agg cs => cases h with
      | agg _ vs hl hh =>
        refine .agg _ vs (by simpa using hl) fun i x hi => ?_
        rw [List.getElem?_map] at hi
        obtain ⟨y, hy, rfl⟩ := Option.map_eq_some_iff.1 hi
        exact ih y _ (all_get (p := bdN N d) hb hy) (hh i y hy)
    | tup cs => cases h with
      | tup _ vs hl hh =>
        refine .tup _ vs (by simpa using hl) fun i x hi => ?_
        rw [List.getElem?_map] at hi
        obtain ⟨y, hy, rfl⟩ := Option.map_eq_some_iff.1 hi
        exact ih y _ (all_get (p := bdN N d) hb hy) (hh i y hy)
    | fptr sz n f i j => cases h with | fptr _ _ _ _ _ u b off hi hb' hl hu hr => exact .fptr sz n f i j u b off hi hb' hl hu hr
    | hptr id sz i j => cases h with | hptr _ _ _ _ b o hs hN => exact .hptr _ sz i j b o ((hρ id hN).2.trans hs) (hρ id hN).1
    | hsl id sz off len cap ex => cases h with
      | hsl _ _ _ _ _ _ A b o c hs hN hl hc hx hm hA hA0 room => exact .hsl _ sz off len cap ex A b o c ((hρ id hN).2.trans hs) (hρ id hN).1 hl hc hx hm hA hA0 room
      | hnil _ _ _ _ hs hN => exact .hnil _ sz off ex ((hρ id hN).2.trans hs) (hρ id hN).1
    | fn f a b => cases h with
      | fn _ _ _ v1 v2 l1 l2 h1 h2 =>
        simp only [bdN, Bool.and_eq_true] at hb
        refine .fn f _ _ v1 v2 (by simpa using l1) (by simpa using l2) (fun i x hi => ?_) (fun i x hi => ?_)
        · rw [List.getElem?_map] at hi
          obtain ⟨y, hy, rfl⟩ := Option.map_eq_some_iff.1 hi
          exact ih y _ (all_get (p := bdN N d) hb.1 hy) (h1 i y hy)
        · rw [List.getElem?_map] at hi
          obtain ⟨y, hy, rfl⟩ := Option.map_eq_some_iff.1 hi
          exact ih y _ (all_get (p := bdN N d) hb.2 hy) (h2 i y hy)
    | mp id => cases h with | mp _ b hs hN => exact .mp _ b ((hρ id hN).2.trans hs) (hρ id hN).1
    | junk => exact .junk _

def renMp (ρ : Nat → Nat) (n : Nat) (m m1 : Option MB) : Prop := (m1 = m ∧ ∀ k l, m ≠ some (.tab k l)) ∨ ∃ k l, m = some (.tab k l) ∧ m1 = some (.tab k (l.map fun q => (q.1, renN ρ 5 q.2))) ∧ ∀ q ∈ l, q.2.bd n = true
/-- Rows r under new numbers are r1. -/
def renRow (ρ : Nat → Nat) (n : Nat) (r r1 : List (List AV)) : Prop := (r1 = r ∧ ∀ row ∈ r, freeL row = true) ∨ (r1 = r.map (fun row => row.map (renN ρ 5)) ∧ ∀ row ∈ r, bdL n row = true)
/-- The blocks of a call, laid into the caller's. -/
def graft (ρ : Nat → Nat) (n : Nat) : List (Nat × Option Blk) → List (Nat × Option Blk) → Prop
  | [], [] => True
  | (id, none) :: l, (id1, none) :: l1 => id1 = ρ id ∧ graft ρ n l l1
  | (id, some b) :: l, (id1, some b1) :: l1 => (id1 = ρ id ∧ b1.sz = b.sz ∧ renRow ρ n b.rows b1.rows ∧ renMp ρ n b.mp b1.mp) ∧ graft ρ n l l1
  | _, _ => False
theorem graft_get {ρ : Nat → Nat} {n : Nat} : ∀ {es es1 : List (Nat × Option Blk)} {id1 : Nat}, graft ρ n es es1 → id1 ∈ es1.map (·.1) → ∃ id, id1 = ρ id ∧ (∀ b1, blkOf es1 id1 = some b1 → ∃ b, blkOf es id = some b ∧ b1.sz = b.sz ∧ renRow ρ n b.rows b1.rows ∧ renMp ρ n b.mp b1.mp)
  | [], [], id1, _, h => by cases h
  | [], _ :: _, id1, h, _ => h.elim
  | (k, none) :: l, [], id1, h, _ => h.elim
  | (k, some b) :: l, [], id1, h, _ => h.elim
  | (k, none) :: l, (k1, some b1) :: l1, id1, h, _ => h.elim
  | (k, some b) :: l, (k1, none) :: l1, id1, h, _ => h.elim
  | (k, none) :: l, (k1, none) :: l1, id1, h, hm => by
    obtain ⟨h1, h2⟩ := h
    by_cases c : k1 = id1
    · exact ⟨k, c.symm.trans h1, fun b1 hb => by simp [blkOf_nil, blkOf_cons, beq_eq, c] at hb⟩
    · have hm' : id1 ∈ l1.map (·.1) := by simpa [Ne.symm c] using hm
      obtain ⟨id, e, h3⟩ := graft_get h2 hm'
      refine ⟨id, e, fun b1 hb => ?_⟩
      have hk : k ≠ id := fun e2 => c (by rw [h1, e2, e])
      simp only [blkOf_nil, blkOf_cons, beq_eq, c, hk, decide_false, cond_false] at hb ⊢
      exact h3 b1 hb
  | (k, some b) :: l, (k1, some b1) :: l1, id1, h, hm => by
    obtain ⟨⟨h1, hs, hr, hmp⟩, h2⟩ := h
    by_cases c : k1 = id1
    · refine ⟨k, c.symm.trans h1, fun b2 hb => ?_⟩
      simp only [blkOf_nil, blkOf_cons, beq_eq, c, decide_true, cond_true, Option.some.injEq] at hb
      subst hb
      exact ⟨b, by simp [blkOf_nil, blkOf_cons, beq_eq], hs, hr, hmp⟩
    · have hm' : id1 ∈ l1.map (·.1) := by simpa [Ne.symm c] using hm
      obtain ⟨id, e, h3⟩ := graft_get h2 hm'
      refine ⟨id, e, fun b1 hb => ?_⟩
      have hk : k ≠ id := fun e2 => c (by rw [h1, e2, e])
      simp only [blkOf_nil, blkOf_cons, beq_eq, c, hk, decide_false, cond_false] at hb ⊢
      exact h3 b1 hb
theorem blkOf_append : ∀ (a b : List (Nat × Option Blk)) (id : Nat), blkOf (a ++ b) id = if id ∈ a.map (·.1) then blkOf a id else blkOf b id
  | [], b, id => by simp
  | (k, v) :: a, b, id => by
    simp only [List.cons_append, blkOf_nil, blkOf_cons, beq_eq, blkOf_append a b id, List.map_cons, List.mem_cons]
    by_cases c : k = id
    · subst c; simp
    · have c' : ¬ id = k := fun e => c e.symm
      simp only [c, decide_false, cond_false]
      by_cases d : id ∈ a.map (·.1)
      · rw [if_pos d, if_pos (.inr d)]
      · rw [if_neg d, if_neg (fun h => h.elim c' d)]
/-- The numbers of a call's blocks among the caller's: its first ones by ρ, the new ones behind all. -/
def ren2 (ρ : List Nat) (N : Nat) (id : Nat) : Nat := bif Nat.blt id ρ.length then ρ.getD id 0 else N + (id - ρ.length)
def kills (ρ : List Nat) : List (Nat × Option Blk) := ρ.map fun i => (i, none)
theorem blkOf_kills : ∀ (ρ : List Nat) (id : Nat), blkOf (kills ρ) id = none
  | [], id => rfl
  | k :: ρ, id => by
    simp only [kills, List.map_cons, blkOf_nil, blkOf_cons]
    cases Nat.beq k id
    · exact blkOf_kills ρ id
    · rfl
theorem ren2_lt {ρ : List Nat} {N id : Nat} (h : id < ρ.length) : ren2 ρ N id = ρ.getD id 0 := by
  have : Nat.blt id ρ.length = true := Nat.ble_eq_true_of_le h
  simp only [ren2, this, cond_true]
theorem ren2_ge {ρ : List Nat} {N id : Nat} (h : ρ.length ≤ id) : ren2 ρ N id = N + (id - ρ.length) := by
  have : Nat.blt id ρ.length = false := by
    cases hb : Nat.blt id ρ.length
    · rfl
    · have := blt_lt hb; omega
  simp only [ren2, this, cond_false]
def lnk (l : List Nat) (i : Nat) : Nat := l.getD i 0

/-- A call that works on some of the caller's blocks, and knows nothing of the others. -/
theorem ACalls.frame {P : Program} {g : FuncId} {args0 args : List AV} {H0 H : Hp} {K0 K : AV → Hp → Prop} (ρ : List Nat) (h : ACalls P g args0 H0 K0)
    (hn : ρ.length = H0.next) (hρ : (ρ.all fun i => Nat.blt i H.next) = true) (hnd : ρ.Nodup)
    (ha : args = args0.map (renN (lnk ρ) 5)) (hab : bdL H0.next args0 = true) (hH : reHp (lnk ρ) H0.next H H0.es)
    (hK : ∀ x H', H0.next ≤ H'.next → K0 x H' → x.bd H'.next = true ∧ ∃ es1, graft (ren2 ρ H.next) H'.next H'.es es1 ∧ K (renN (ren2 ρ H.next) 5 x) ⟨H.next + (H'.next - H0.next), es1 ++ (kills ρ ++ H.es)⟩) : ACalls P g args H K := by
  refine ⟨h.ok, fun σ F w vs hw hr => ?_⟩
  have hkey : ∀ a ∈ H0.es.map (·.1), ∀ b, blkOf H0.es a = some b → a < H0.next := fun a _ b hb => blt_lt (reHp_get hH hb).1
  have hget : ∀ i, i < H0.next → lnk ρ i < H.next ∧ lnk ρ i ∈ ρ := fun i hi => by
    have hm : lnk ρ i ∈ ρ := by simp [lnk, List.getD_eq_getElem?_getD, hn, hi]
    exact ⟨blt_lt (List.all_eq_true.1 hρ _ hm), hm⟩
  have hinj : ∀ a b, a < H0.next → b < H0.next → lnk ρ a = lnk ρ b → a = b := fun a b ha hb e => by
    have h1 : a < ρ.length := by omega
    have h2 : b < ρ.length := by omega
    simp only [lnk, List.getD_eq_getElem?_getD, List.getElem?_eq_getElem h1, List.getElem?_eq_getElem h2, Option.getD_some] at e
    exact (List.getElem_inj hnd).1 e
  -- the call's own picture
  have hw0 : WR (fun k => σ (lnk ρ k)) F H0 w := by
    refine ⟨fun id blk hg => ?_, fun id id' blk blk' b o o' hg hg' hs hs' => ?_, hw.frz⟩
    · obtain ⟨h1, ⟨r, h2, h3, hm⟩, _⟩ := reHp_get hH hg
      refine ⟨blt_lt h1, ?_⟩
      rcases (hw.own _ _ h2).2 with ⟨h4, h5, h6⟩ | ⟨b, o, h4, nf, ⟨cs, el, h5, h6, h8, h7⟩ | ⟨g1, g2, m, g3, g4⟩⟩
      · refine .inl ⟨?_, h5, h6⟩
        rcases h3 with ⟨e, _⟩ | ⟨e, _⟩
        · exact e.symm.trans h4
        · simp only at h4; rw [h4] at e; exact List.map_eq_nil_iff.1 e.symm
      · refine .inr ⟨b, o, h4, nf, .inl ⟨cs, el, h5, ?_, h8, fun i row hr => ?_⟩⟩
        · rcases h3 with ⟨e, _⟩ | ⟨e, _⟩
          · rw [e] at h6; exact h6
          · rw [e] at h6; simpa using h6
        · rcases h3 with ⟨e, e1⟩ | ⟨e, e1⟩
          · rw [e] at h7
            refine ⟨(h7 i row hr).1, fun j x hx => ?_⟩
            exact ((h7 i row hr).2 j x hx).toFree (freeL_get (e1 row (List.mem_of_getElem? hr)) hx)
          · rw [e] at h7
            have h9 := h7 i (row.map (renN (lnk ρ) 5)) (by simp [hr])
            refine ⟨by simpa using h9.1, fun j x hx => ?_⟩
            exact (h9.2 j (renN (lnk ρ) 5 x) (by simp [hx])).ren 5 x _ (bdL_get (e1 row (List.mem_of_getElem? hr)) hx)
      · refine .inr ⟨b, o, h4, nf, .inr ⟨?_, g2, m, g3, ?_⟩⟩
        · rcases h3 with ⟨e, _⟩ | ⟨e, _⟩
          · exact e.symm.trans g1
          · simp only at g1; rw [g1] at e; exact List.map_eq_nil_iff.1 e.symm
        · cases m with
          | bset k p => exact g4
          | tab k l => exact absurd g3 (hm k l)
    · obtain ⟨h0, ⟨r, h1, _⟩, _⟩ := reHp_get hH hg
      obtain ⟨h0', ⟨r', h1', _⟩, _⟩ := reHp_get hH hg'
      exact hinj _ _ (blt_lt h0) (blt_lt h0') (hw.inj _ _ _ _ b o o' h1 h1' hs hs')
  have hr0 : Rs H0.next (fun k => σ (lnk ρ k)) F w args0 vs := by
    subst ha
    refine ⟨by simpa using hr.1, fun i x hx => ?_⟩
    exact (hr.2 i (renN (lnk ρ) 5 x) (by simp [hx])).ren 5 x _ (bdL_get hab hx)
  refine (h.run _ F w vs hw0 hr0).mono ?_
  rintro e w' ⟨v, rfl, x, σ', F', H', hK0, hx, hw', hrv⟩
  obtain ⟨hxb, es1, hgr, hk⟩ := hK x H' hx.n.2 hK0
  have hlive0 : ∀ b, Live (fun k => σ (lnk ρ k)) H0 b → ∃ id blk o, id < H0.next ∧ H.get (lnk ρ id) = some blk ∧ σ (lnk ρ id) = some (b, o) := by
    rintro b ⟨id, blk, o, hg, hs⟩
    obtain ⟨h0, ⟨r, h1, _⟩, _⟩ := reHp_get hH hg
    exact ⟨id, _, o, blt_lt h0, h1, hs⟩
  have hliveH : ∀ b, Live (fun k => σ (lnk ρ k)) H0 b → Live σ H b := fun b hb => by
    obtain ⟨id, blk, o, _, h1, h2⟩ := hlive0 b hb
    exact ⟨_, _, _, h1, h2⟩
  let σ1 : Sg := fun id => if id < H.next then σ id else σ' (H0.next + (id - H.next))
  have hs1 : ∀ id, id < H.next → σ1 id = σ id := fun id hid => by simp [σ1, hid]
  have hnn := hx.n.2
  have hren : ∀ id, id < H'.next → ren2 ρ H.next id < H.next + (H'.next - H0.next) ∧ σ1 (ren2 ρ H.next id) = σ' id := fun id hid => by
    by_cases c : id < H0.next
    · have h1 := hget id c
      rw [ren2_lt (by omega)]
      refine ⟨Nat.lt_of_lt_of_le h1.1 (Nat.le_add_right _ _), ?_⟩
      rw [show ρ.getD id 0 = lnk ρ id from rfl, hs1 _ h1.1]
      exact (hx.sig id c).symm
    · rw [ren2_ge (by omega), hn]
      refine ⟨by omega, ?_⟩
      simp only [σ1]
      rw [if_neg (by omega)]
      congr 1; omega
  have hgetH1 : ∀ id blk, blkOf (es1 ++ (kills ρ ++ H.es)) id = some blk → (∃ id0 b0, id = ren2 ρ H.next id0 ∧ H'.get id0 = some b0 ∧ blk.sz = b0.sz ∧ renRow (ren2 ρ H.next) H'.next b0.rows blk.rows ∧ renMp (ren2 ρ H.next) H'.next b0.mp blk.mp) ∨ (H.get id = some blk ∧ id ∉ ρ) := by
    intro id blk hg
    rw [blkOf_append] at hg
    by_cases c : id ∈ es1.map (·.1)
    · rw [if_pos c] at hg
      obtain ⟨id0, e, h3⟩ := graft_get hgr c
      obtain ⟨b0, h4, h5, h6, h7⟩ := h3 blk hg
      exact .inl ⟨id0, b0, e, h4, h5, h6, h7⟩
    · rw [if_neg c, blkOf_append, blkOf_kills] at hg
      by_cases d : id ∈ (kills ρ).map (·.1)
      · rw [if_pos d] at hg; cases hg
      · rw [if_neg d] at hg
        exact .inr ⟨hg, fun hm => d (by simpa [kills] using hm)⟩
  have hnl : ∀ id blk b o, H.get id = some blk → id ∉ ρ → σ id = some (b, o) → ¬ Live (fun k => σ (lnk ρ k)) H0 b := fun id blk b o hg hn0 hs hl => by
    obtain ⟨id0, blk0, o0, h1, h2, h3⟩ := hlive0 b hl
    have := hw.inj _ _ _ _ b o o0 hg h2 hs h3
    exact hn0 (by rw [this]; exact (hget id0 h1).2)
  have hX : Ext H.next σ F H w σ1 F' ⟨H.next + (H'.next - H0.next), es1 ++ (kills ρ ++ H.es)⟩ w' := by
    refine ⟨⟨Nat.le_refl _, Nat.le_add_right _ _⟩, fun id hid => hs1 id hid, hx.fr, fun b hb => ?_, fun b hb hl => hx.same b hb fun h => hl (hliveH b h), hx.size, fun b => ?_, hx.heap, hx.os, hx.tape, hx.out⟩
    · rcases hx.fr' b hb with h1 | h1 | h1
      · exact .inl h1
      · exact .inr (.inl h1)
      · exact .inr (.inr (hliveH b h1))
    · rintro ⟨id, blk, o, hg, hs⟩
      rcases hgetH1 id blk hg with ⟨id0, b0, rfl, h1, h2, h3, h4⟩ | ⟨h1, h2⟩
      · have hid := (hw'.own _ _ h1).1
        rw [(hren id0 hid).2] at hs
        rcases hx.live b ⟨id0, b0, o, h1, hs⟩ with h5 | h5
        · exact .inl (hliveH b h5)
        · exact .inr h5
      · have hid := hw.lt h1
        rw [hs1 id hid] at hs
        exact .inl ⟨id, blk, o, h1, hs⟩
  have holdAt : ∀ id blk b o, H.get id = some blk → id ∉ ρ → σ id = some (b, o) → w'.heap[b]? = w.heap[b]? := fun id blk b o h1 h2 hs =>
    hx.same b (hw.liveLt ⟨id, blk, o, h1, hs⟩) (hnl id blk b o h1 h2 hs)
  refine ⟨v, rfl, _, σ1, F', _, hk, hX, ⟨fun id blk hg => ?_, fun id id' blk blk' b o o' hg hg' hs hs' => ?_, hw'.frz⟩, AR.renF (fun id hid => hren id hid) 5 x v hxb hrv⟩
  · rcases hgetH1 id blk hg with ⟨id0, b0, rfl, h1, h2, h3, h4⟩ | ⟨h1, h2⟩
    · obtain ⟨hid, hown⟩ := hw'.own _ _ h1
      refine ⟨(hren id0 hid).1, ?_⟩
      rw [(hren id0 hid).2]
      have hmpn : ∀ {m}, b0.mp = m → (∀ k l, m ≠ some (MB.tab k l)) → blk.mp = m := fun {m} e hne => by
        rcases h4 with ⟨e2, _⟩ | ⟨k, l, e2, _⟩
        · exact e2.trans e
        · exact absurd (e.symm.trans e2) (hne k l)
      have hrnil : b0.rows = [] → blk.rows = [] := fun e => by
        rcases h3 with ⟨e2, _⟩ | ⟨e2, _⟩ <;> rw [e2, e] <;> rfl
      rcases hown with ⟨h5, h6, h7⟩ | ⟨b, o, h5, nf, ⟨cs, el, h6, h7, h9, h8⟩ | ⟨g1, g2, m, g3, g4⟩⟩
      · exact .inl ⟨hrnil h5, h6, hmpn h7 (fun _ _ h => by cases h)⟩
      · refine .inr ⟨b, o, h5, nf, .inl ⟨cs, el, h6, ?_, hmpn h9 (fun _ _ h => by cases h), fun i row hr => ?_⟩⟩
        · rw [h2]
          rcases h3 with ⟨e, _⟩ | ⟨e, _⟩ <;> rw [e]
          · exact h7
          · simpa using h7
        · rw [h2]
          rcases h3 with ⟨e, e1⟩ | ⟨e, e1⟩
          · rw [e] at hr
            refine ⟨(h8 i row hr).1, fun j y hy => ?_⟩
            exact ((h8 i row hr).2 j y hy).toFree (freeL_get (e1 row (List.mem_of_getElem? hr)) hy)
          · rw [e, List.getElem?_map] at hr
            obtain ⟨row0, hr0, rfl⟩ := Option.map_eq_some_iff.1 hr
            refine ⟨by simpa using (h8 i row0 hr0).1, fun j y hy => ?_⟩
            rw [List.getElem?_map] at hy
            obtain ⟨y0, hy0, rfl⟩ := Option.map_eq_some_iff.1 hy
            exact AR.renF (fun id hid => hren id hid) 5 y0 _ (bdL_get (e1 row0 (List.mem_of_getElem? hr0)) hy0) ((h8 i row0 hr0).2 j y0 hy0)
      · refine .inr ⟨b, o, h5, nf, .inr ⟨hrnil g1, g2, ?_⟩⟩
        rcases h4 with ⟨e2, hne⟩ | ⟨k, l, e2, e3, hq⟩
        · refine ⟨m, e2.trans g3, ?_⟩
          cases m with
          | bset k p => exact g4
          | tab k l => exact absurd g3 (hne k l)
        · rw [g3] at e2
          simp only [Option.some.injEq] at e2
          subst e2
          refine ⟨_, e3, ?_⟩
          obtain ⟨es, c, f1, f2, f3⟩ := g4
          refine ⟨es, c, f1, by simpa using f2, fun i q hi => ?_⟩
          rw [List.getElem?_map] at hi
          obtain ⟨q0, hq0, rfl⟩ := Option.map_eq_some_iff.1 hi
          obtain ⟨en, f4, f5, f6⟩ := f3 i q0 hq0
          exact ⟨en, f4, f5, AR.renF (fun id hid => hren id hid) 5 q0.2 _ (hq q0 (List.mem_of_getElem? hq0)) f6⟩
    · obtain ⟨hid, hown⟩ := hw.own _ _ h1
      refine ⟨Nat.lt_of_lt_of_le hid (Nat.le_add_right _ _), ?_⟩
      rw [hs1 id hid]
      rcases hown with h3 | ⟨b, o, h3, hat⟩
      · exact .inl h3
      · refine .inr ⟨b, o, h3, hat.mono (fun k hk => ⟨Nat.lt_of_lt_of_le hk (Nat.le_add_right _ _), hs1 k hk⟩) hx.fr (fun b hb => hx.keeps hw0 hb) hx.size (holdAt id blk b o h1 h2 h3) fun hf => ?_⟩
        rcases hx.fr' b hf with h4 | h4 | h4
        · exact hat.nf h4
        · exact absurd (hw.liveLt ⟨id, blk, o, h1, h3⟩) (by omega)
        · exact hnl id blk b o h1 h2 h3 h4
  · rcases hgetH1 id blk hg with ⟨i0, b0, rfl, h1, _⟩ | ⟨h1, h2⟩ <;> rcases hgetH1 id' blk' hg' with ⟨i0', b0', rfl, h1', _⟩ | ⟨h1', h2'⟩
    · rw [(hren i0 (hw'.own _ _ h1).1).2] at hs
      rw [(hren i0' (hw'.own _ _ h1').1).2] at hs'
      rw [hw'.inj _ _ _ _ b o o' h1 h1' hs hs']
    · rw [(hren i0 (hw'.own _ _ h1).1).2] at hs
      rw [hs1 id' (hw.lt h1')] at hs'
      rcases hx.live b ⟨i0, b0, o, h1, hs⟩ with h5 | h5
      · exact absurd h5 (hnl id' blk' b o' h1' h2' hs')
      · exact absurd (hw.liveLt ⟨id', blk', o', h1', hs'⟩) (by omega)
    · rw [(hren i0' (hw'.own _ _ h1').1).2] at hs'
      rw [hs1 id (hw.lt h1)] at hs
      rcases hx.live b ⟨i0', b0', o', h1', hs'⟩ with h5 | h5
      · exact absurd h5 (hnl id blk b o h1 h2 hs)
      · exact absurd (hw.liveLt ⟨id, blk, o, h1, hs⟩) (by omega)
    · rw [hs1 id (hw.lt h1)] at hs
      rw [hs1 id' (hw.lt h1')] at hs'
      exact hw.inj _ _ _ _ b o o' h1 h1' hs hs'

/-- On with what stands behind a label. -/
theorem goto_go {P : Program} {n0 : Nat} {b : Code} {Q : Exit → Fr → Hp → Prop} {l : Nat} {fr : Fr} {H : Hp} {rest : Code} (hf : findLabel b l = some rest) (h : evWp P n0 rest (scopeK (fun _ _ _ => False) Q) fr H) : GotoC P n0 b Q l fr H :=
  ⟨⟨rest, hf, fun D B hB hD hok a w hs => by subst hB; exact evWp_sound hD rest (okCode_find hf hok) _ fr H a w h hs⟩⟩
/-- A loop that ends within n rounds, whatever happens, is walked round by round. -/
def unroll (W : WpT) (Q : Exit → Fr → Hp → Prop) : Nat → Fr → Hp → Prop
  | 0, _, _ => False
  | n + 1, fr, H => W (fun e fr' H' => match e with | .normal => unroll W Q n fr' H' | e => Q e fr' H') fr H
theorem loop_un {P : Program} {n0 : Nat} {c : Code} {W : WpT} {Q : Exit → Fr → Hp → Prop} {fr : Fr} {H : Hp} (n : Nat)
    (mono : ∀ (Q1 Q2 : Exit → Fr → Hp → Prop) fr H, (∀ e fr H, Q1 e fr H → Q2 e fr H) → W Q1 fr H → W Q2 fr H) (h : unroll W Q n fr H) : LoopC P n0 c W Q fr H := by
  refine ⟨⟨fun m fr H => unroll W Q m fr H, ⟨n, fr, H, Wk.refl _ _ _, h⟩, fun m fr H hm => ?_⟩⟩
  cases m with
  | zero => exact hm.elim
  | succ m =>
    refine mono _ _ _ _ (fun e fr' H' hq => ?_) hm
    cases e with
    | normal => exact ⟨m, fr', H', Nat.lt_succ_self _, Wk.refl _ _ _, hq⟩
    | _ => exact hq
theorem loop_u {P : Program} {n0 : Nat} {c : Code} {Q : Exit → Fr → Hp → Prop} {fr : Fr} {H : Hp} (n : Nat) (h : unroll (evWp P n0 c) Q n fr H) : LoopC P n0 c (evWp P n0 c) Q fr H :=
  loop_un n (evWp_mono c) h
end
end Go.Proofs.YtdblhmpcilihnaaGreat.E
