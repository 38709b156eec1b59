/- Copies that are the caller's own. A node's transitions: what they leave. A node's transitions of one task. A node stops an allocation. A node places an allocation. A record is applied. state.Apply. -/
import Derived.Test.YtdblhmpcilihnaaGreatTT
import Derived.Test.YtdblhmpcilihnaaGreatEE
import Derived.Test.YtdblhmpcilihnaaGreatRR
import Derived.Test.YtdblhmpcilihnaaGreatT8
namespace Go.Proofs.YtdblhmpcilihnaaGreat
open Go.RowKit E
set_option maxRecDepth 100000
set_option linter.unusedVariables false
set_option linter.unusedSimpArgs false
/-- As goS, but on to the next piece of code alone. -/
theorem goS1 {P Q : Prop} (q : Q) (e : GoTo P Q := by
  refine @GoTo.start _ ?_ ?_
  rotate_left 1
  (conv => lhs; whnf)
  repeat ((first
    | refine GoTo.and trivial ?_
    | refine GoTo.and (And.intro (Nat.le_of_ble_eq_true rfl) (Nat.le_of_ble_eq_true rfl)) ?_
    | refine GoTo.and (Nat.le_of_ble_eq_true rfl) ?_
    | refine GoTo.and (And.intro (by omega) (by omega)) ?_
    | refine GoTo.and (by omega) ?_
    | refine GoTo.and rfl ?_
    | refine GoTo.t (by with_reducible assumption) ?_
    | refine GoTo.f (by with_reducible assumption) ?_) <;> (conv => lhs; whnf))
  exact GoTo.refl _) : P := e q
/-- A store into a row that is named by a number. -/
theorem evStore_eq {P : Program} {t : TypeId} {p x : AV} {H : Hp} {id sz i j : Nat} {b : E.Blk} {row cs : List AV} {k : E.Kd} {rows' : List (List AV)} (hp : p = .hptr id sz i j) (hv : cellsOf x = some cs) (hg : H.get id = some b) (hr : b.rows[i]? = some row)
    (hk : E.kd P t = some k) (hb : (Nat.beq sz b.sz && Nat.ble (j + cs.length) row.length && Nat.beq cs.length k.size && cs.all AV.one) = true) (hs : b.rows.set i (splice row j cs) = rows') : evStore P t H p x = some (H.set id (some ⟨b.sz, rows', none⟩)) := by
  subst hs hp
  simp only [evStore, hg, hr, hv, hk, hb, cond_true]
theorem set_same {α : Type} {l : List α} {i : Nat} {x : α} (h : l[i]? = some x) : l.set i x = l := by
  refine List.ext_getElem? fun k => ?_
  rw [List.getElem?_set]
  by_cases c : i = k
  · subst c
    rw [if_pos rfl, h]
    have := (List.getElem?_eq_some_iff.1 h).1
    rw [if_pos this]
  · rw [if_neg c]
/-- A list's rows. -/
abbrev rowsL {α : Type} (fv : α → List FV) (L : List α) : List (List AV) := L.map fun x => (fv x).map FV.up
theorem rowsL_free {α : Type} {fv : α → List FV} {L : List α} : ∀ row ∈ rowsL fv L, freeL row = true := free_map
theorem rowsL_at {α : Type} [Inhabited α] {fv : α → List FV} {L : List α} {i : Nat} (h : i < L.length) : (rowsL fv L)[i]? = some ((fv (L.getD i default)).map FV.up) := by
  simp [rowsL, List.getD_eq_getElem?_getD, h]
theorem rng_rowsL {α : Type} [Inhabited α] {fv : α → List FV} {L : List α} : ((List.range L.length).map fun i => (fv (L.getD i default)).map FV.up) = rowsL fv L := List.ext_getElem (by simp) fun i h1 h2 => by
  simp at h1
  simp [List.getD_eq_getElem?_getD, h1]
abbrev nilV0 : AV := .val (.slice none 0 0)
theorem cloneI_p (l : List Int) (hl : l.length ≤ 1000000) : Pure Tryz.prog 89 [slI l] (slI l) := by
  refine Pure.ev Tryz.f89 mx Tryz.func89 (by kernel_rfl) rfl rfl rfl ?_ <;> (refine goS ?_ <;> repeat (intro _ <;> refine goS ?_))
  refine ⟨fun h => ?_, fun h => ⟨?_, ?_⟩⟩ <;> (refine goS ?_ <;> repeat (intro _ <;> refine goS ?_))
  · refine onB_f (ble_no (by simp; omega)) ?_ <;> (refine goS ?_ <;> repeat (intro _ <;> refine goS ?_))
    refine And.intro ⟨Nat.le_refl _, by show _ * 8 ≤ _; simp; omega⟩ ?_ <;> (refine goS ?_ <;> repeat (intro _ <;> refine goS ?_))
    exact ret_frz (x1 := slI l) (frz_rng' (by simp) rfl rfl fun i hi => by simp [hi]) rfl
  · exact ret_frz (x1 := slI l) h rfl
  · have h0 : l = [] := List.eq_nil_of_length_eq_zero h
    subst h0
    (refine goS ?_ <;> repeat (intro _ <;> refine goS ?_))
    exact ret_frz (x1 := slI []) (frz_rng' rfl rfl rfl fun i hi => absurd hi (Nat.not_lt_zero _)) rfl
theorem bd_one' {x : AV} {n sz : Nat} {rows : List (List AV)} (hx : bdN n 5 x = true) (hn : Nat.blt 0 n = true) (h : ∀ row ∈ rows, freeL row = true) : (bdN n 5 x && bdE n [(0, some ⟨sz, rows, none⟩)]) = true := bd_one hx hn h
/-- A clone of its own: nothing was there. -/
theorem clone_z {sz n : Nat} {H : Hp} {rows : List (List AV)} (hn : H.next = 0) (h0 : n = 0) (hr : rows = []) : ∃ x1 H1, Wk 0 [(0, nilV0)] H [(0, x1)] H1 ∧ (x1 = .hsl 0 sz 0 n n false ∧ H1 = ⟨1, [(0, some ⟨sz, rows, none⟩)]⟩) := by
  subst h0 hr
  obtain ⟨nx, es⟩ := H
  dsimp only at hn; subst hn
  exact ⟨_, _, (Wk.phantom 0 sz rfl).trans (Wk.cut (H1 := ⟨1, [(0, some ⟨sz, [], none⟩)]⟩) rfl ⟨⟨rfl, rfl⟩, trivial⟩ ⟨⟨rfl, rfl, nofun, nofun⟩, trivial⟩), rfl, rfl⟩
theorem cloneT_n (l : List Task) (hl : l.length ≤ 1000) : E.NPure Tryz.prog 88 [slT l] (.hsl 0 8 0 l.length l.length false) 1 [(0, some ⟨8, rowsL Task.fv l, none⟩)] := by
  refine ⟨?_, rfl, bd_one rfl rfl rowsL_free⟩
  refine ACalls.ev Tryz.f88 mx Tryz.func88 (by kernel_rfl) rfl ?_ <;> (refine goS ?_ <;> repeat (intro _ <;> refine goS ?_))
  refine ⟨fun h => ?_, fun h => ⟨?_, ?_⟩⟩ <;> (refine goS ?_ <;> repeat (intro _ <;> refine goS ?_))
  · refine onB_f (ble_no (by simp; omega)) ?_ <;> (refine goS ?_ <;> repeat (intro _ <;> refine goS ?_))
    refine And.intro ⟨Nat.le_refl _, by show _ * 80 ≤ _; simp; omega⟩ ?_ <;> (refine goS ?_ <;> repeat (intro _ <;> refine goS ?_))
    exact ⟨_, _, Wk.re (fr1 := [(0, .hsl 0 8 0 l.length l.length false)]) (H1 := ⟨1, [(0, some ⟨8, rowsL Task.fv l, none⟩)]⟩) (fun _ => 1) rfl (fun id h => absurd h (Nat.not_lt_zero _)) inj1 ⟨⟨congrArg (fun k => AV.hsl 1 8 0 k k false) (by simp), rfl⟩, trivial⟩ ⟨⟨rfl, _, rfl, .inl ⟨rng_rowsL, rowsL_free⟩, nofun⟩, trivial⟩, rfl, rfl⟩
  · exact clone_z rfl h (by rw [List.eq_nil_of_length_eq_zero h]; rfl)
  · have h0 : l = [] := List.eq_nil_of_length_eq_zero h
    subst h0
    (refine goS ?_ <;> repeat (intro _ <;> refine goS ?_))
    exact ⟨_, _, (Wk.exf 0 rfl).trans (Wk.cut (H1 := ⟨1, [(0, some ⟨8, [], none⟩)]⟩) rfl ⟨⟨rfl, rfl⟩, trivial⟩ ⟨⟨rfl, rfl, nofun, nofun⟩, trivial⟩), rfl, rfl⟩
theorem cloneA_n (l : List Alloc) (hl : l.length ≤ 1000) : E.NPure Tryz.prog 86 [slA l] (.hsl 0 10 0 l.length l.length false) 1 [(0, some ⟨10, rowsL Alloc.fv l, none⟩)] := by
  refine ⟨?_, rfl, bd_one rfl rfl rowsL_free⟩
  refine ACalls.ev Tryz.f86 mx Tryz.func86 (by kernel_rfl) rfl ?_ <;> (refine goS ?_ <;> repeat (intro _ <;> refine goS ?_))
  refine ⟨fun h => ?_, fun h => ⟨?_, ?_⟩⟩ <;> (refine goS ?_ <;> repeat (intro _ <;> refine goS ?_))
  · refine onB_f (ble_no (by simp; omega)) ?_ <;> (refine goS ?_ <;> repeat (intro _ <;> refine goS ?_))
    refine And.intro ⟨Nat.le_refl _, by show _ * 128 ≤ _; simp; omega⟩ ?_ <;> (refine goS ?_ <;> repeat (intro _ <;> refine goS ?_))
    exact ⟨_, _, Wk.re (fr1 := [(0, .hsl 0 10 0 l.length l.length false)]) (H1 := ⟨1, [(0, some ⟨10, rowsL Alloc.fv l, none⟩)]⟩) (fun _ => 1) rfl (fun id h => absurd h (Nat.not_lt_zero _)) inj1 ⟨⟨congrArg (fun k => AV.hsl 1 10 0 k k false) (by simp), rfl⟩, trivial⟩ ⟨⟨rfl, _, rfl, .inl ⟨rng_rowsL, rowsL_free⟩, nofun⟩, trivial⟩, rfl, rfl⟩
  · exact clone_z rfl h (by rw [List.eq_nil_of_length_eq_zero h]; rfl)
  · have h0 : l = [] := List.eq_nil_of_length_eq_zero h
    subst h0
    (refine goS ?_ <;> repeat (intro _ <;> refine goS ?_))
    exact ⟨_, _, (Wk.exf 0 rfl).trans (Wk.cut (H1 := ⟨1, [(0, some ⟨10, [], none⟩)]⟩) rfl ⟨⟨rfl, rfl⟩, trivial⟩ ⟨⟨rfl, rfl, nofun, nofun⟩, trivial⟩), rfl, rfl⟩
theorem cloneS_p (l : List TaskSpec) (hl : l.length ≤ 1000000) : Pure Tryz.prog 160 [slS l] (slS l) := by
  refine Pure.ev Tryz.f160 mx Tryz.func160 (by kernel_rfl) rfl rfl rfl ?_ <;> (refine goS ?_ <;> repeat (intro _ <;> refine goS ?_))
  refine ⟨fun h => ?_, fun h => ⟨?_, ?_⟩⟩ <;> (refine goS ?_ <;> repeat (intro _ <;> refine goS ?_))
  · refine onB_f (ble_no (by simp; omega)) ?_ <;> (refine goS ?_ <;> repeat (intro _ <;> refine goS ?_))
    refine And.intro ⟨Nat.le_refl _, by show _ * 48 ≤ _; simp; omega⟩ ?_ <;> (refine goS ?_ <;> repeat (intro _ <;> refine goS ?_))
    exact ret_frz (x1 := slS l) (frz_rng' (by simp) rfl rfl fun i hi => by simp [hi]) rfl
  · exact ret_frz (x1 := slS l) h rfl
  · have h0 : l = [] := List.eq_nil_of_length_eq_zero h
    subst h0
    (refine goS ?_ <;> repeat (intro _ <;> refine goS ?_))
    exact ret_frz (x1 := slS []) (frz_rng' rfl rfl rfl fun i hi => absurd hi (Nat.not_lt_zero _)) rfl
theorem specCopy_p (s : Spec) (hp : s.ports.length ≤ 1000000) (ht : s.tasks.length ≤ 1000000) : Pure Tryz.prog 87 [s.av] s.av := by
  refine Pure.ev Tryz.f87 mx Tryz.func87 (by kernel_rfl) rfl rfl rfl ?_ <;> (refine goS ?_ <;> repeat (intro _ <;> refine goS ?_))
  (first | refine Pure.call (cloneI_p s.ports hp) ?_ | refine HCall.pure (cloneI_p s.ports hp) ?_) <;> (refine goS ?_ <;> repeat (intro _ <;> refine goS ?_))
  (first | refine Pure.call (cloneS_p s.tasks ht) ?_ | refine HCall.pure (cloneS_p s.tasks ht) ?_) <;> (refine goS ?_ <;> repeat (intro _ <;> refine goS ?_))
  exact ret_now _ rfl
/-- An allocation's row, its tasks where x says. -/
abbrev rowA (a : Alloc) (x : AV) : List AV := [I a.spec.id, I a.spec.res.cpu, I a.spec.res.mem, I a.spec.res.disk, slI a.spec.ports, slS a.spec.tasks, I a.life, I a.slot, B a.stop, x]
abbrev rowsAt (s : State) (i id : Nat) : List (List AV) := (rowsL Alloc.fv s.allocs).set i (rowA (s.allocs.getD i default) (.hsl id 8 0 (s.allocs.getD i default).tasks.length (s.allocs.getD i default).tasks.length false))
theorem rowA_eq (a : Alloc) : (Alloc.fv a).map FV.up = rowA a (slT a.tasks) := rfl
theorem rowsAt_at {s : State} {i id k : Nat} (hk : k < s.allocs.length) : (rowsAt s i id)[k]? = some (if i = k then rowA (s.allocs.getD k default) (.hsl id 8 0 (s.allocs.getD k default).tasks.length (s.allocs.getD k default).tasks.length false) else rowA (s.allocs.getD k default) (slT (s.allocs.getD k default).tasks)) := by
  rw [List.getElem?_set]
  by_cases c : i = k
  · subst c
    rw [if_pos rfl, if_pos (by simp [rowsL]; exact hk), if_pos rfl]
  · rw [if_neg c, if_neg c, rowsL_at hk]; rfl
abbrev stV (s : State) (x : AV) : List AV := [I s.epoch, I s.next, I s.lives, I s.ack, x]
abbrev alV (id n : Nat) : AV := .hsl id 10 0 n n false
theorem rowsL_at' {α : Type} [Inhabited α] {fv : α → List FV} {L : List α} {i : Nat} (h : i < L.length) : (rowsL fv L)[0 + ((i : Int)).toNat]? = some ((fv (L.getD i default)).map FV.up) := by
  rw [Nat.zero_add, toNat_nat]; exact rowsL_at h
theorem rowsL_shA {α : Type} {fv : α → List FV} (N : Nat) (L : List α) : ((rowsL fv L).map fun r => r.map (shA N)) = rowsL fv L := by
  refine (List.map_congr_left fun r hr => ?_).trans (List.map_id _)
  have h := rowsL_free r hr
  refine (List.map_congr_left fun x hx => ?_).trans (List.map_id _)
  exact renFree (List.all_eq_true.1 h x hx)
theorem set_at {α : Type} {l : List α} {i : Nat} {x : α} (h : i < l.length) : (l.set i x)[i]? = some x := by simp [h]
theorem bd_set {n i : Nat} {rows : List (List AV)} {row : List AV} (h : ∀ r ∈ rows, bdL n r = true) (hr : bdL n row = true) : ∀ r ∈ rows.set i row, bdL n r = true := fun r hm => by
  rcases List.mem_or_eq_of_mem_set hm with h1 | h1
  · exact h r h1
  · rw [h1]; exact hr
theorem frzL_refl {z : Nat → Bool} {H : Hp} (d : Nat) : ∀ l : List AV, FzL (Frz z H d) l l
  | [] => trivial
  | a :: l => ⟨frz_refl d a, frzL_refl d l⟩
theorem fzRows_set {R : List AV → List AV → Prop} {rows : List (List AV)} {i : Nat} {a b : List AV} (hi : rows[i]? = some b) (h : R a b) (hr : ∀ r, R r r) : FzRows R (rows.set i a) rows := by
  refine ⟨by simp, fun j x y hx hy => ?_⟩
  rw [List.getElem?_set] at hx
  by_cases c : i = j
  · subst c
    rw [if_pos rfl, if_pos (List.getElem?_eq_some_iff.1 hi).1] at hx
    rw [hi] at hy
    cases hx; cases hy; exact h
  · rw [if_neg c, hy] at hx
    cases hx; exact hr _
theorem rowsL_ren {α : Type} {fv : α → List FV} {ρ : Nat → Nat} (L : List α) : ((rowsL fv L).map fun r => r.map (renN ρ 5)) = rowsL fv L := by
  refine (List.map_congr_left fun r hr => ?_).trans (List.map_id _)
  have h := rowsL_free r hr
  refine (List.map_congr_left fun x hx => ?_).trans (List.map_id _)
  exact renFree (List.all_eq_true.1 h x hx)
theorem rowsAt_ren {ρ : Nat → Nat} (s : State) (i id : Nat) : ((rowsAt s i id).map fun r => r.map (renN ρ 5)) = rowsAt s i (ρ id) := by
  unfold rowsAt
  rw [List.map_set, rowsL_ren]
  rfl
abbrev tkV (id n : Nat) : AV := .hsl id 8 0 n n false
set_option maxHeartbeats 4000000 in
theorem copy_n (s : State) (i : Nat) (hf : s.few) : E.ACalls Tryz.prog 53 [s.av] ⟨0, []⟩ fun y H => y = .agg (stV s (alV 0 s.allocs.length)) ∧ H = (if i < s.allocs.length then ⟨2, [(1, some ⟨8, rowsL Task.fv (s.allocs.getD i default).tasks, none⟩), (0, some ⟨10, rowsAt s i 1, none⟩)]⟩ else ⟨1, [(0, some ⟨10, rowsL Alloc.fv s.allocs, none⟩)]⟩) := by
  obtain ⟨hn, hw⟩ := hf
  refine ACalls.ev Tryz.f53 mx Tryz.func53 (by kernel_rfl) rfl ?_ <;> (refine goS ?_ <;> repeat (intro _ <;> refine goS ?_))
  (first | refine NPure.acalls (cloneA_n s.allocs (by omega)) ?_ | refine HCall.neu (cloneA_n s.allocs (by omega)) ?_) <;> (refine goS ?_ <;> repeat (intro _ <;> refine goS ?_))
  refine loop_st (S := Nat) (fun k => [(1, .hptr 0 5 0 0), (2, .hptr 1 5 0 0), (3, .hptr 2 5 0 0), (14, slA s.allocs), (15, I s.allocs.length), (16, I k)])
    (fun k => if k ≤ i then ⟨4, [(3, some ⟨10, rowsL Alloc.fv s.allocs, none⟩), (2, some ⟨5, [stV s (alV 3 s.allocs.length)], none⟩), (1, some ⟨5, [[I 0, I 0, I 0, I 0, nilV0]], none⟩), (0, some ⟨5, [stV s (slA s.allocs)], none⟩)]⟩
      else ⟨5, [(4, some ⟨8, rowsL Task.fv (s.allocs.getD i default).tasks, none⟩), (3, some ⟨10, rowsAt s i 4, none⟩), (2, some ⟨5, [stV s (alV 3 s.allocs.length)], none⟩), (1, some ⟨5, [[I 0, I 0, I 0, I 0, nilV0]], none⟩), (0, some ⟨5, [stV s (slA s.allocs)], none⟩)]⟩)
    (fun k => k ≤ s.allocs.length) (fun k => s.allocs.length - k) 0
    (by
      rw [if_pos (Nat.zero_le _)]
      exact Wk.cut rfl ⟨⟨rfl, rfl⟩, ⟨rfl, rfl⟩, ⟨rfl, rfl⟩, ⟨rfl, rfl⟩, ⟨rfl, rfl⟩, ⟨rfl, rfl⟩, trivial⟩ ⟨⟨congrArg (fun r => some (E.Blk.mk 10 r none)) (rowsL_shA _ _), rfl, bd_rows rowsL_free, nofun⟩, ⟨rfl, rfl, row1 rfl, nofun⟩, ⟨rfl, rfl, row1 rfl, nofun⟩, ⟨rfl, rfl, row1 rfl, nofun⟩, trivial⟩) (Nat.zero_le _) ?_
  intro k hk
  have hak := hw k
  have ha1 := hak.1
  have ha2 := hak.2.1
  have ha3 := hak.2.2.1
  by_cases c : k ≤ i
  · rw [if_pos c]
    (refine goS ?_ <;> repeat (intro _ <;> refine goS ?_))
    (refine bnS (fun hr h => ?_) (fun hr h => ?_) <;> first | (exact False.elim h) | ((refine goS ?_ <;> repeat (intro _ <;> refine goS ?_))))
    · have hk2 : k < s.allocs.length := h

      (first | refine Pure.call (specCopy_p (s.allocs.getD k default).spec (by omega) (by omega)) ?_ | refine HCall.pure (specCopy_p (s.allocs.getD k default).spec (by omega) (by omega)) ?_) <;> (refine goS ?_ <;> repeat (intro _ <;> refine goS ?_))
      (rw [evStore_eq (row := rowA (s.allocs.getD k default) (slT (s.allocs.getD k default).tasks)) (rows' := rowsL Alloc.fv s.allocs)]; rotate_left 1; exact rfl; exact rfl; exact rfl; exact (rowsL_at' (fv := Alloc.fv) hk2); exact rfl; exact rfl; exact set_same (rowsL_at' (fv := Alloc.fv) hk2)) <;> (refine goS ?_ <;> repeat (intro _ <;> refine goS ?_))
      (first | refine NPure.acalls (cloneT_n (s.allocs.getD k default).tasks (by omega)) ?_ | refine HCall.neu (cloneT_n (s.allocs.getD k default).tasks (by omega)) ?_) <;> (refine goS ?_ <;> repeat (intro _ <;> refine goS ?_))
      (rw [evStore_eq (row := rowA (s.allocs.getD k default) (slT (s.allocs.getD k default).tasks)) (rows' := (rowsL Alloc.fv s.allocs).set (0 + ((k : Int)).toNat) (rowA (s.allocs.getD k default) (tkV 5 (s.allocs.getD k default).tasks.length)))]; rotate_left 1; exact rfl; exact rfl; exact rfl; exact (rowsL_at' (fv := Alloc.fv) hk2); exact rfl; exact rfl; exact rfl) <;> (refine goS ?_ <;> repeat (intro _ <;> refine goS ?_))
      have hat2 : ((rowsL Alloc.fv s.allocs).set (0 + ((k : Int)).toNat) (rowA (s.allocs.getD k default) (tkV 5 (s.allocs.getD k default).tasks.length)))[0 + ((k : Int)).toNat]? = some (rowA (s.allocs.getD k default) (tkV 5 (s.allocs.getD k default).tasks.length)) := set_at (by first | omega | (simp; omega) | (simp; exact hk2))
      have hb2 : ∀ row ∈ (rowsL Alloc.fv s.allocs).set (0 + ((k : Int)).toNat) (rowA (s.allocs.getD k default) (tkV 5 (s.allocs.getD k default).tasks.length)), bdL 6 row = true := bd_set (bd_rows rowsL_free) rfl
      generalize hR : (rowsL Alloc.fv s.allocs).set (0 + ((k : Int)).toNat) (rowA (s.allocs.getD k default) (tkV 5 (s.allocs.getD k default).tasks.length)) = R at hat2 hb2 ⊢
      refine loop_st (S := Nat) (fun j => [(1, .hptr 0 5 0 0), (2, .hptr 1 5 0 0), (3, .hptr 2 5 0 0), (4, I k), (14, slA s.allocs), (15, I s.allocs.length), (16, I k), (38, slT (s.allocs.getD k default).tasks), (39, I (s.allocs.getD k default).tasks.length), (40, I j)])
        (fun _ => ⟨6, [(5, some ⟨8, rowsL Task.fv (s.allocs.getD k default).tasks, none⟩), (3, some ⟨10, R, none⟩), (2, some ⟨5, [stV s (alV 3 s.allocs.length)], none⟩), (1, some ⟨5, [[I 0, I 0, I 0, I 0, nilV0]], none⟩), (0, some ⟨5, [stV s (slA s.allocs)], none⟩)]⟩)
        (fun j => j ≤ (s.allocs.getD k default).tasks.length) (fun j => (s.allocs.getD k default).tasks.length - j) 0
        (Wk.cut rfl ⟨⟨rfl, rfl⟩, ⟨rfl, rfl⟩, ⟨rfl, rfl⟩, ⟨rfl, rfl⟩, ⟨rfl, rfl⟩, ⟨rfl, rfl⟩, ⟨rfl, rfl⟩, ⟨rfl, rfl⟩, ⟨rfl, rfl⟩, ⟨rfl, rfl⟩, trivial⟩ ⟨⟨congrArg (fun r => some (E.Blk.mk 8 r none)) (rowsL_shA _ _), rfl, bd_rows rowsL_free, nofun⟩, ⟨rfl, rfl, hb2, nofun⟩, ⟨rfl, rfl, row1 rfl, nofun⟩, ⟨rfl, rfl, row1 rfl, nofun⟩, ⟨rfl, rfl, row1 rfl, nofun⟩, trivial⟩) (Nat.zero_le _) ?_
      intro j hj
      (refine goS ?_ <;> repeat (intro _ <;> refine goS ?_))
      (refine bnS (fun hr h => ?_) (fun hr h => ?_) <;> first | (exact False.elim h) | ((refine goS ?_ <;> repeat (intro _ <;> refine goS ?_))))
      · have hj2 : j < (s.allocs.getD k default).tasks.length := h
        have hst := (hw k).2.2.2 j
        (rw [evN_load_own (row := rowA (s.allocs.getD k default) (tkV 5 (s.allocs.getD k default).tasks.length)) (y := tkV 5 (s.allocs.getD k default).tasks.length)]; rotate_left 1; exact rfl; exact rfl; exact rfl; exact hat2; exact rfl; exact rfl) <;> (refine goS ?_ <;> repeat (intro _ <;> refine goS ?_))
        (first | refine Pure.call (cloneI_p ((s.allocs.getD k default).tasks.getD j default).starts (by omega)) ?_ | refine HCall.pure (cloneI_p ((s.allocs.getD k default).tasks.getD j default).starts (by omega)) ?_) <;> (refine goS ?_ <;> repeat (intro _ <;> refine goS ?_))
        (rw [evStore_eq (row := (Task.fv ((s.allocs.getD k default).tasks.getD j default)).map FV.up) (rows' := rowsL Task.fv (s.allocs.getD k default).tasks)]; rotate_left 1; exact rfl; exact rfl; exact rfl; exact rowsL_at' (fv := Task.fv) hj2; exact rfl; exact rfl; exact set_same (rowsL_at' (fv := Task.fv) hj2)) <;> (refine goS ?_ <;> repeat (intro _ <;> refine goS ?_))
        exact ⟨j + 1, by omega, hj2, Wk.cut rfl ⟨⟨rfl, rfl⟩, ⟨rfl, rfl⟩, ⟨rfl, rfl⟩, ⟨rfl, rfl⟩, ⟨rfl, rfl⟩, ⟨rfl, rfl⟩, ⟨rfl, rfl⟩, ⟨rfl, rfl⟩, ⟨rfl, rfl⟩, ⟨congrArg I (wrapS (by omega)), rfl⟩, trivial⟩ ⟨⟨rfl, rfl, bd_rows rowsL_free, nofun⟩, ⟨rfl, rfl, hb2, nofun⟩, ⟨rfl, rfl, row1 rfl, nofun⟩, ⟨rfl, rfl, row1 rfl, nofun⟩, ⟨rfl, rfl, row1 rfl, nofun⟩, trivial⟩⟩
      · subst hR

        by_cases e : k = i
        · subst e
          have e0 : 0 + ((k : Int)).toNat = k := by simp
          refine ⟨k + 1, by omega, hk2, ?_⟩
          rw [if_neg (Nat.not_succ_le_self k), e0]
          exact Wk.re (fun x => if x = 4 then 5 else x) rfl (fun id h => absurd h (Nat.not_lt_zero _)) (injL rfl) ⟨⟨rfl, rfl⟩, ⟨rfl, rfl⟩, ⟨rfl, rfl⟩, ⟨rfl, rfl⟩, ⟨rfl, rfl⟩, ⟨congrArg I (wrapS (by omega)), rfl⟩, trivial⟩
            ⟨⟨rfl, _, rfl, .inl ⟨rfl, rowsL_free⟩, nofun⟩, ⟨rfl, _, rfl, .inr ⟨(rowsAt_ren (ρ := fun x => if x = 4 then 5 else x) s k 4).symm, bd_set (bd_rows rowsL_free) rfl⟩, nofun⟩, ⟨rfl, _, rfl, .inr ⟨rfl, row1 rfl⟩, nofun⟩, ⟨rfl, _, rfl, .inl ⟨rfl, free1 rfl⟩, nofun⟩, ⟨rfl, _, rfl, .inl ⟨rfl, free1 rfl⟩, nofun⟩, trivial⟩
        · refine ⟨k + 1, by omega, hk2, ?_⟩
          rw [if_pos (show k + 1 ≤ i by omega)]
          refine (Wk.frz (fr1 := [(1, .hptr 0 5 0 0), (2, .hptr 1 5 0 0), (3, .hptr 2 5 0 0), (14, slA s.allocs), (15, I s.allocs.length), (16, I (IntKind.i64.wrap ((k : Int) + 1)))]) (es1 := [(3, some ⟨10, rowsL Alloc.fv s.allocs, none⟩), (2, some ⟨5, [stV s (alV 3 s.allocs.length)], none⟩), (1, some ⟨5, [[I 0, I 0, I 0, I 0, nilV0]], none⟩), (0, some ⟨5, [stV s (slA s.allocs)], none⟩)]) (fun x => Nat.beq x 5) ⟨frz_refl 5 _, frz_refl 5 _, frz_refl 5 _, frz_refl 5 _, frz_refl 5 _, frz_refl 5 _, trivial⟩ ⟨⟨rfl, ⟨10, (rowsL Alloc.fv s.allocs).set (0 + ((k : Int)).toNat) (rowA (s.allocs.getD k default) (tkV 5 (s.allocs.getD k default).tasks.length)), none⟩, rfl, .inr ⟨rfl, rfl, rfl, ?_⟩⟩, ⟨rfl, _, rfl, .inl rfl⟩, ⟨rfl, _, rfl, .inl rfl⟩, ⟨rfl, _, rfl, .inl rfl⟩, trivial⟩).trans (Wk.cut rfl ⟨⟨rfl, rfl⟩, ⟨rfl, rfl⟩, ⟨rfl, rfl⟩, ⟨rfl, rfl⟩, ⟨rfl, rfl⟩, ⟨congrArg I (wrapS (by omega)), rfl⟩, trivial⟩ ⟨⟨rfl, rfl, bd_rows rowsL_free, nofun⟩, ⟨rfl, rfl, row1 rfl, nofun⟩, ⟨rfl, rfl, row1 rfl, nofun⟩, ⟨rfl, rfl, row1 rfl, nofun⟩, trivial⟩)
          exact fzRows_set (rowsL_at' (fv := Alloc.fv) hk2) ⟨rfl, rfl, rfl, rfl, rfl, rfl, rfl, rfl, rfl, frz_rows rfl rfl rfl, trivial⟩ (frzL_refl _)
    · have hkn : k = s.allocs.length := by omega
      refine ⟨.agg (stV s (alV 0 s.allocs.length)), ⟨1, [(0, some ⟨10, rowsL Alloc.fv s.allocs, none⟩)]⟩, Wk.re (fun _ => 3) rfl (fun id h => absurd h (Nat.not_lt_zero _)) inj1 ⟨⟨rfl, rfl⟩, trivial⟩ ⟨⟨rfl, _, rfl, .inl ⟨rfl, rowsL_free⟩, nofun⟩, trivial⟩, rfl, ?_⟩
      rw [if_neg (by omega)]
  · rw [if_neg c]
    (refine goS ?_ <;> repeat (intro _ <;> refine goS ?_))
    (refine bnS (fun hr h => ?_) (fun hr h => ?_) <;> first | (exact False.elim h) | ((refine goS ?_ <;> repeat (intro _ <;> refine goS ?_))))
    · have hk2 : k < s.allocs.length := h
      have hat : (rowsAt s i 4)[0 + ((k : Int)).toNat]? = some (rowA (s.allocs.getD k default) (slT (s.allocs.getD k default).tasks)) := by
        rw [show 0 + ((k : Int)).toNat = k by simp, rowsAt_at hk2, if_neg (by omega)]

      (first | refine Pure.call (specCopy_p (s.allocs.getD k default).spec (by omega) (by omega)) ?_ | refine HCall.pure (specCopy_p (s.allocs.getD k default).spec (by omega) (by omega)) ?_) <;> (refine goS ?_ <;> repeat (intro _ <;> refine goS ?_))
      (rw [evStore_eq (row := rowA (s.allocs.getD k default) (slT (s.allocs.getD k default).tasks)) (rows' := rowsAt s i 4)]; rotate_left 1; exact rfl; exact rfl; exact rfl; exact hat; exact rfl; exact rfl; exact set_same hat) <;> (refine goS ?_ <;> repeat (intro _ <;> refine goS ?_))
      (first | refine NPure.acalls (cloneT_n (s.allocs.getD k default).tasks (by omega)) ?_ | refine HCall.neu (cloneT_n (s.allocs.getD k default).tasks (by omega)) ?_) <;> (refine goS ?_ <;> repeat (intro _ <;> refine goS ?_))
      (rw [evStore_eq (row := rowA (s.allocs.getD k default) (slT (s.allocs.getD k default).tasks)) (rows' := (rowsAt s i 4).set (0 + ((k : Int)).toNat) (rowA (s.allocs.getD k default) (tkV 6 (s.allocs.getD k default).tasks.length)))]; rotate_left 1; exact rfl; exact rfl; exact rfl; exact hat; exact rfl; exact rfl; exact rfl) <;> (refine goS ?_ <;> repeat (intro _ <;> refine goS ?_))
      have hat2 : ((rowsAt s i 4).set (0 + ((k : Int)).toNat) (rowA (s.allocs.getD k default) (tkV 6 (s.allocs.getD k default).tasks.length)))[0 + ((k : Int)).toNat]? = some (rowA (s.allocs.getD k default) (tkV 6 (s.allocs.getD k default).tasks.length)) := set_at (by first | omega | (simp; omega) | (simp; exact hk2))
      have hb2 : ∀ row ∈ (rowsAt s i 4).set (0 + ((k : Int)).toNat) (rowA (s.allocs.getD k default) (tkV 6 (s.allocs.getD k default).tasks.length)), bdL 7 row = true := bd_set (bd_set (bd_rows rowsL_free) rfl) rfl
      generalize hR : (rowsAt s i 4).set (0 + ((k : Int)).toNat) (rowA (s.allocs.getD k default) (tkV 6 (s.allocs.getD k default).tasks.length)) = R at hat2 hb2 ⊢
      refine loop_st (S := Nat) (fun j => [(1, .hptr 0 5 0 0), (2, .hptr 1 5 0 0), (3, .hptr 2 5 0 0), (4, I k), (14, slA s.allocs), (15, I s.allocs.length), (16, I k), (38, slT (s.allocs.getD k default).tasks), (39, I (s.allocs.getD k default).tasks.length), (40, I j)])
        (fun _ => ⟨7, [(6, some ⟨8, rowsL Task.fv (s.allocs.getD k default).tasks, none⟩), (4, some ⟨8, rowsL Task.fv (s.allocs.getD i default).tasks, none⟩), (3, some ⟨10, R, none⟩), (2, some ⟨5, [stV s (alV 3 s.allocs.length)], none⟩), (1, some ⟨5, [[I 0, I 0, I 0, I 0, nilV0]], none⟩), (0, some ⟨5, [stV s (slA s.allocs)], none⟩)]⟩)
        (fun j => j ≤ (s.allocs.getD k default).tasks.length) (fun j => (s.allocs.getD k default).tasks.length - j) 0
        (Wk.cut rfl ⟨⟨rfl, rfl⟩, ⟨rfl, rfl⟩, ⟨rfl, rfl⟩, ⟨rfl, rfl⟩, ⟨rfl, rfl⟩, ⟨rfl, rfl⟩, ⟨rfl, rfl⟩, ⟨rfl, rfl⟩, ⟨rfl, rfl⟩, ⟨rfl, rfl⟩, trivial⟩ ⟨⟨congrArg (fun r => some (E.Blk.mk 8 r none)) (rowsL_shA _ _), rfl, bd_rows rowsL_free, nofun⟩, ⟨rfl, rfl, bd_rows rowsL_free, nofun⟩, ⟨rfl, rfl, hb2, nofun⟩, ⟨rfl, rfl, row1 rfl, nofun⟩, ⟨rfl, rfl, row1 rfl, nofun⟩, ⟨rfl, rfl, row1 rfl, nofun⟩, trivial⟩) (Nat.zero_le _) ?_
      intro j hj
      (refine goS ?_ <;> repeat (intro _ <;> refine goS ?_))
      (refine bnS (fun hr h => ?_) (fun hr h => ?_) <;> first | (exact False.elim h) | ((refine goS ?_ <;> repeat (intro _ <;> refine goS ?_))))
      · have hj2 : j < (s.allocs.getD k default).tasks.length := h
        have hst := (hw k).2.2.2 j
        (rw [evN_load_own (row := rowA (s.allocs.getD k default) (tkV 6 (s.allocs.getD k default).tasks.length)) (y := tkV 6 (s.allocs.getD k default).tasks.length)]; rotate_left 1; exact rfl; exact rfl; exact rfl; exact hat2; exact rfl; exact rfl) <;> (refine goS ?_ <;> repeat (intro _ <;> refine goS ?_))
        (first | refine Pure.call (cloneI_p ((s.allocs.getD k default).tasks.getD j default).starts (by omega)) ?_ | refine HCall.pure (cloneI_p ((s.allocs.getD k default).tasks.getD j default).starts (by omega)) ?_) <;> (refine goS ?_ <;> repeat (intro _ <;> refine goS ?_))
        (rw [evStore_eq (row := (Task.fv ((s.allocs.getD k default).tasks.getD j default)).map FV.up) (rows' := rowsL Task.fv (s.allocs.getD k default).tasks)]; rotate_left 1; exact rfl; exact rfl; exact rfl; exact rowsL_at' (fv := Task.fv) hj2; exact rfl; exact rfl; exact set_same (rowsL_at' (fv := Task.fv) hj2)) <;> (refine goS ?_ <;> repeat (intro _ <;> refine goS ?_))
        exact ⟨j + 1, by omega, hj2, Wk.cut rfl ⟨⟨rfl, rfl⟩, ⟨rfl, rfl⟩, ⟨rfl, rfl⟩, ⟨rfl, rfl⟩, ⟨rfl, rfl⟩, ⟨rfl, rfl⟩, ⟨rfl, rfl⟩, ⟨rfl, rfl⟩, ⟨rfl, rfl⟩, ⟨congrArg I (wrapS (by omega)), rfl⟩, trivial⟩ ⟨⟨rfl, rfl, bd_rows rowsL_free, nofun⟩, ⟨rfl, rfl, bd_rows rowsL_free, nofun⟩, ⟨rfl, rfl, hb2, nofun⟩, ⟨rfl, rfl, row1 rfl, nofun⟩, ⟨rfl, rfl, row1 rfl, nofun⟩, ⟨rfl, rfl, row1 rfl, nofun⟩, trivial⟩⟩
      · subst hR

        refine ⟨k + 1, by omega, hk2, ?_⟩
        rw [if_neg (show ¬ k + 1 ≤ i by omega)]
        refine (Wk.frz (fr1 := [(1, .hptr 0 5 0 0), (2, .hptr 1 5 0 0), (3, .hptr 2 5 0 0), (14, slA s.allocs), (15, I s.allocs.length), (16, I (IntKind.i64.wrap ((k : Int) + 1)))]) (es1 := [(4, some ⟨8, rowsL Task.fv (s.allocs.getD i default).tasks, none⟩), (3, some ⟨10, rowsAt s i 4, none⟩), (2, some ⟨5, [stV s (alV 3 s.allocs.length)], none⟩), (1, some ⟨5, [[I 0, I 0, I 0, I 0, nilV0]], none⟩), (0, some ⟨5, [stV s (slA s.allocs)], none⟩)]) (fun x => Nat.beq x 6) ⟨frz_refl 5 _, frz_refl 5 _, frz_refl 5 _, frz_refl 5 _, frz_refl 5 _, frz_refl 5 _, trivial⟩ ⟨⟨rfl, _, rfl, .inl rfl⟩, ⟨rfl, ⟨10, (rowsAt s i 4).set (0 + ((k : Int)).toNat) (rowA (s.allocs.getD k default) (tkV 6 (s.allocs.getD k default).tasks.length)), none⟩, rfl, .inr ⟨rfl, rfl, rfl, ?_⟩⟩, ⟨rfl, _, rfl, .inl rfl⟩, ⟨rfl, _, rfl, .inl rfl⟩, ⟨rfl, _, rfl, .inl rfl⟩, trivial⟩).trans (Wk.cut rfl ⟨⟨rfl, rfl⟩, ⟨rfl, rfl⟩, ⟨rfl, rfl⟩, ⟨rfl, rfl⟩, ⟨rfl, rfl⟩, ⟨congrArg I (wrapS (by omega)), rfl⟩, trivial⟩ ⟨⟨rfl, rfl, bd_rows rowsL_free, nofun⟩, ⟨rfl, rfl, bd_set (bd_rows rowsL_free) rfl, nofun⟩, ⟨rfl, rfl, row1 rfl, nofun⟩, ⟨rfl, rfl, row1 rfl, nofun⟩, ⟨rfl, rfl, row1 rfl, nofun⟩, trivial⟩)
        exact fzRows_set hat ⟨rfl, rfl, rfl, rfl, rfl, rfl, rfl, rfl, rfl, frz_rows rfl rfl rfl, trivial⟩ (frzL_refl _)
    · have hkn : k = s.allocs.length := by omega
      refine ⟨.agg (stV s (alV 0 s.allocs.length)), ⟨2, [(1, some ⟨8, rowsL Task.fv (s.allocs.getD i default).tasks, none⟩), (0, some ⟨10, rowsAt s i 1, none⟩)]⟩, Wk.re (fun x => if x = 0 then 3 else 4) rfl (fun id h => absurd h (Nat.not_lt_zero _)) (injL rfl) ⟨⟨rfl, rfl⟩, trivial⟩
        ⟨⟨rfl, _, rfl, .inl ⟨rfl, rowsL_free⟩, nofun⟩, ⟨rfl, _, rfl, .inr ⟨(rowsAt_ren (ρ := fun x => if x = 0 then 3 else 4) s i 1).symm, bd_set (bd_rows rowsL_free) rfl⟩, nofun⟩, trivial⟩, rfl, ?_⟩
      rw [if_pos (by omega)]
abbrev cfV (c : Config) : List AV := [I c.cap.cpu, I c.cap.mem, I c.cap.disk, I c.allocs, I c.area, I c.files, I c.blocks, I c.beat, I c.lease, I c.grace, I c.wait]
abbrev ndV (c : Config) (s : State) (x : AV) : List AV := [I c.cap.cpu, I c.cap.mem, I c.cap.disk, I c.allocs, I c.area, I c.files, I c.blocks, I c.beat, I c.lease, I c.grace, I c.wait, I s.epoch, I s.next, I s.lives, I s.ack, x]
/-- The node, its allocations its own. -/
abbrev hpO (c : Config) (s : State) : Hp := ⟨2, [(1, some ⟨10, rowsL Alloc.fv s.allocs, none⟩), (0, some ⟨16, [ndV c s (alV 1 s.allocs.length)], none⟩)]⟩
/-- The tasks of the allocation i too. -/
abbrev hpN (c : Config) (s : State) (i : Nat) : Hp := ⟨3, [(2, some ⟨8, rowsL Task.fv (s.allocs.getD i default).tasks, none⟩), (1, some ⟨10, rowsAt s i 2, none⟩), (0, some ⟨16, [ndV c s (alV 1 s.allocs.length)], none⟩)]⟩
/-- The node alone. -/
abbrev hpM (m : Nat) (c : Config) (s : State) : Hp := ⟨m, [(0, some ⟨16, [ndV c s (slA s.allocs)], none⟩)]⟩
/-- What a transition leaves. -/
abbrev MetK (m : Nat) (c : Config) (z : Int × State) : AV → Hp → Prop := fun x H => ∃ s', x = I z.1 ∧ (z.1 = 0 → s' = z.2) ∧ H = hpM m c s'
abbrev z0 : Nat → Bool := fun k => bif Nat.beq k 0 then false else true
theorem ret_met {n0 m : Nat} {x X : AV} {H : Hp} {c : Config} {s' : State} {z : Int × State} (hx : x = I z.1) (hz : z.1 = 0 → s' = z.2) (hg : H.get 0 = some ⟨16, [ndV c s' X], none⟩) (hf : Frz z0 H 5 X (slA s'.allocs)) (hn : Nat.ble n0 m = true) (hm : Nat.blt 0 m = true) : ∃ x1 H1, Wk n0 [(0, x)] H [(0, x1)] H1 ∧ MetK m c z x1 H1 := by
  subst hx
  exact ⟨I z.1, hpM m c s', (Wk.frz (fr1 := [(0, I z.1)]) (es1 := [(0, some ⟨16, [ndV c s' (slA s'.allocs)], none⟩)]) z0 ⟨frz_refl 5 _, trivial⟩ ⟨⟨rfl, _, hg, .inr ⟨rfl, rfl, rfl, fzRows1 ⟨rfl, rfl, rfl, rfl, rfl, rfl, rfl, rfl, rfl, rfl, rfl, rfl, rfl, rfl, rfl, hf, trivial⟩⟩⟩, trivial⟩).trans (Wk.cut hn ⟨⟨rfl, rfl⟩, trivial⟩ ⟨⟨rfl, hm, row1 rfl, nofun⟩, trivial⟩), s', rfl, hz, rfl⟩
/-- Allocations' rows, of which one has its tasks elsewhere. -/
theorem frz_al {z : Nat → Bool} {H : Hp} {d a t n i cap : Nat} {ex : Bool} {L : List Alloc} {A : Alloc} (ha : z a = true) (ht : z t = true) (hn : n = L.length)
    (hg : H.get a = some ⟨10, (rowsL Alloc.fv L).set i (rowA A (tkV t A.tasks.length)), none⟩) (hg2 : H.get t = some ⟨8, rowsL Task.fv A.tasks, none⟩) : Frz z H (d + 3) (.hsl a 10 0 n cap ex) (slA (L.set i A)) := by
  subst hn
  refine ⟨⟨⟨rfl, by simp⟩, ha⟩, _, hg, rfl, fun k hk => ?_⟩
  rw [Nat.zero_add, List.getElem?_set]
  by_cases c : i = k
  · subst c
    rw [if_pos rfl, if_pos (by simpa [rowsL] using hk)]
    refine ⟨_, rfl, ?_⟩
    dsimp only
    rw [show (L.set i A).getD i default = A by simp [List.getD_eq_getElem?_getD, hk]]
    exact ⟨rfl, rfl, rfl, rfl, rfl, rfl, rfl, rfl, rfl, frz_rows ht hg2 rfl, trivial⟩
  · rw [if_neg c, rowsL_at hk]
    refine ⟨_, rfl, ?_⟩
    dsimp only
    rw [show (L.set i A).getD k default = L.getD k default by simp [List.getD_eq_getElem?_getD, List.getElem?_set, c]]
    exact frz_sameL _
theorem set_getD {L : List Alloc} {i : Nat} : L.set i (L.getD i default) = L := by
  by_cases h : i < L.length
  · exact set_same (by simp [List.getD_eq_getElem?_getD, h])
  · exact List.set_eq_of_length_le (by omega)
abbrev MetO (m : FuncId) (c : Config) (s : State) (r : Rec) (z : Int × State) : Prop := E.ACalls Tryz.prog m [.hptr 0 16 0 0, r.av] (hpO c s) (MetK 2 c z)
abbrev MetN (m : FuncId) (c : Config) (s : State) (i : Nat) (r : Rec) (z : Int × State) : Prop := E.ACalls Tryz.prog m [.hptr 0 16 0 0, r.av] (hpN c s i) (MetK 3 c z)
theorem ack_m (c : Config) (s : State) (r : Rec) : MetO 95 c s r (doAck s r) := by
  refine ACalls.ev Tryz.f95 mx Tryz.func95 (by kernel_rfl) rfl ?_ <;> (refine goS ?_ <;> repeat (intro _ <;> refine goS ?_))
  (refine bnS (fun hr h => ?_) (fun hr h => ?_) <;> first | (exact False.elim h) | ((refine goS ?_ <;> repeat (intro _ <;> refine goS ?_))))
  · have e : doAck s r = (7, zS) := if_pos h
    rw [e]
    exact ret_met (s' := s) rfl nofun rfl (frz_rows rfl rfl rfl) rfl rfl
  · have e : doAck s r = (0, ⟨s.epoch, s.next, s.lives, r.tick, s.allocs⟩) := if_neg (by omega)
    rw [e]
    exact ret_met (s' := ⟨s.epoch, s.next, s.lives, r.tick, s.allocs⟩) rfl (fun _ => rfl) rfl (frz_rows rfl rfl rfl) rfl rfl
theorem dth_free {H : Hp} {d : Nat} (l : List FV) : PW (DTh H (d + 1)) (l.map FV.up) (l.map FV.up) := ⟨rfl, fun i x y hx hy => by
  rw [hx] at hy; cases hy
  exact .inl ⟨rfl, List.all_eq_true.1 (free_up l) x (List.mem_of_getElem? hx)⟩⟩
theorem dth_rows {α : Type} [Inhabited α] {H : Hp} {d id sz n cap : Nat} {ex : Bool} {fv : α → List FV} {L : List α} {mp : Option MB} (hg : H.get id = some ⟨sz, rowsL fv L, mp⟩) (hn : n = L.length) : DTh H (d + 2) (.hsl id sz 0 n cap ex) (.sl sz n fun i => fv (L.getD i default)) := by
  subst hn
  refine .inr ⟨⟨rfl, rfl⟩, _, hg, rfl, by simp [rowsL], fun i hi => ⟨_, by rw [Nat.zero_add]; exact rowsL_at hi, dth_free _⟩⟩
theorem dth_al {H : Hp} {d a t i cap : Nat} {ex : Bool} {s : State} (hg : H.get a = some ⟨10, rowsAt s i t, none⟩) (hg2 : H.get t = some ⟨8, rowsL Task.fv (s.allocs.getD i default).tasks, none⟩) : DTh H (d + 4) (.hsl a 10 0 s.allocs.length cap ex) (slA s.allocs) := by
  refine .inr ⟨⟨rfl, rfl⟩, _, hg, rfl, by simp [rowsL], fun k hk => ⟨_, by rw [Nat.zero_add]; exact rowsAt_at hk, ?_⟩⟩
  by_cases c : i = k
  · subst c
    rw [if_pos rfl]
    exact .cons (.inl ⟨rfl, rfl⟩) (.cons (.inl ⟨rfl, rfl⟩) (.cons (.inl ⟨rfl, rfl⟩) (.cons (.inl ⟨rfl, rfl⟩) (.cons (.inl ⟨rfl, rfl⟩) (.cons (.inl ⟨rfl, rfl⟩) (.cons (.inl ⟨rfl, rfl⟩) (.cons (.inl ⟨rfl, rfl⟩) (.cons (.inl ⟨rfl, rfl⟩) (.cons (dth_rows hg2 rfl) .nil)))))))))
  · rw [if_neg c]
    exact dth_free _
theorem dth_st {H : Hp} {s : State} {x : AV} (h : DTh H 4 x (slA s.allocs)) : DTh H 5 (.agg (stV s x)) s.av :=
  .inr (.cons (.inl ⟨rfl, rfl⟩) (.cons (.inl ⟨rfl, rfl⟩) (.cons (.inl ⟨rfl, rfl⟩) (.cons (.inl ⟨rfl, rfl⟩) (.cons h .nil)))))
theorem ACalls.deep {P : Program} {g : FuncId} {args args' : List AV} {H : Hp} {K : AV → Hp → Prop} {r : AV} (h : E.Pure P g args' r) (hp : plainN 5 r = true) (ht : PW (DTh H 5) args args') (hk : K r H) : E.ACalls P g args H K :=
  thaw_gen (fun _ _ _ hw _ _ _ ht h => dth_ar hw 5 ht h) h hp ht hk
/-- Where an allocation is. -/
theorem find_at {s : State} {id : Int} (h : 0 ≤ findG s.allocs id 0) : ∃ i : Nat, findG s.allocs id 0 = i ∧ i < s.allocs.length := by
  rcases findG_spec (s := s) (id := id) 0 (Nat.zero_le _) with ⟨i, _, h1, h2, _⟩ | ⟨h1, _⟩
  · exact ⟨i, h2, h1⟩
  · rw [List.drop_zero] at h1; omega
theorem findG_le {s : State} {id : Int} : -1 ≤ findG s.allocs id 0 ∧ findG s.allocs id 0 ≤ s.allocs.length := by
  rcases findG_spec (s := s) (id := id) 0 (Nat.zero_le _) with ⟨i, _, h1, h2, _⟩ | ⟨h1, _⟩
  · rw [List.drop_zero] at h2; omega
  · rw [List.drop_zero] at h1; omega
theorem rowsOf_own {H : Hp} {sz : Nat} {x : AV} {id off len cap : Nat} {ex : Bool} {b : E.Blk} {X : List (List AV)} (hx : x = .hsl id sz off len cap ex) (hg : H.get id = some b) (hs : Nat.beq b.sz sz = true) (hl : off + len ≤ b.rows.length) (hX : (b.rows.drop off).take len = X) : rowsOf H sz x = some X := by
  subst hx hX
  simp only [rowsOf, hg, hs, Nat.ble_eq_true_of_le hl, Nat.beq_refl, Bool.true_and, cond_true]
theorem rowsL_part {α : Type} {fv : α → List FV} {L : List α} {o l m : Nat} (ho : o = m) (hl : L.length ≤ m + l) : ((rowsL fv L).drop o).take l = rowsL fv (L.drop m) := by
  subst ho
  rw [List.take_of_length_le (by simp [rowsL]; omega)]
  simp [rowsL]
theorem over_nil {rows : List (List AV)} {k : Nat} : overRows rows k [] = rows := by simp [overRows]
theorem ble_yes {a b : Nat} (h : a ≤ b) : Nat.ble a b = true := Nat.ble_eq_true_of_le h
theorem frz_rows' {α : Type} [Inhabited α] {z : Nat → Bool} {H : Hp} {d id sz n cap : Nat} {ex : Bool} {fv : α → List FV} {L : List α} {mp : Option MB} (hn : n = L.length) (hz : z id = true) (hg : H.get id = some ⟨sz, rowsL fv L, mp⟩) : Frz z H (d + 1) (.hsl id sz 0 n cap ex) (.sl sz L.length fun i => fv (L.getD i default)) := by
  subst hn
  exact frz_rows hz hg rfl
/-- An index that is found. -/
theorem rowsL_ix {s : State} {i : Nat} (h : i < s.allocs.length) : (rowsL Alloc.fv s.allocs)[0 + ((i : Int)).toNat]? = some ((Alloc.fv (s.at i)).map FV.up) := by
  rw [rowsL_at' h]; rfl
set_option maxHeartbeats 2000000 in
theorem forget_m (c : Config) (s : State) (r : Rec) (hn : s.allocs.length ≤ 1000) : MetO 92 c s r (doForget s r) := by
  have hF := find_p s r.id
  by_cases h1 : r.epoch < s.epoch
  · have e : doForget s r = (13, zS) := if_pos h1
    rw [e]
    refine ACalls.ev Tryz.f92 mx Tryz.func92 (by kernel_rfl) rfl ?_ <;> (refine goS ?_ <;> repeat (intro _ <;> refine goS ?_))
    refine ACalls.ev Tryz.f163 mx Tryz.func163 (by kernel_rfl) rfl ?_ <;> (refine goS ?_ <;> repeat (intro _ <;> refine goS ?_))
    (refine bnS (fun hr h => ?_) (fun hr h => ?_) <;> first | (exfalso; omega) | ((refine goS ?_ <;> repeat (intro _ <;> refine goS ?_))))
    refine ret_now _ ?_ <;> (refine goS ?_ <;> repeat (intro _ <;> refine goS ?_))
    exact ret_met (s' := s) rfl nofun rfl (frz_rows rfl rfl rfl) rfl rfl
  by_cases h2 : findG s.allocs r.id 0 < 0
  · have e : doForget s r = (6, zS) := by unfold doForget; rw [if_neg h1, if_pos h2]
    rw [e]
    refine ACalls.ev Tryz.f92 mx Tryz.func92 (by kernel_rfl) rfl ?_ <;> (refine goS ?_ <;> repeat (intro _ <;> refine goS ?_))
    refine ACalls.ev Tryz.f163 mx Tryz.func163 (by kernel_rfl) rfl ?_ <;> (refine goS ?_ <;> repeat (intro _ <;> refine goS ?_))
    (refine bnS (fun hr h => ?_) (fun hr h => ?_) <;> first | (exfalso; omega) | ((refine goS ?_ <;> repeat (intro _ <;> refine goS ?_))))
    (first | refine ACalls.deep (hF) rfl (.cons (dth_st (dth_rows rfl rfl)) (.cons (.inl ⟨rfl, rfl⟩) .nil)) ?_ | refine HCall.deep (hF) rfl (.cons (dth_st (dth_rows rfl rfl)) (.cons (.inl ⟨rfl, rfl⟩) .nil)) ?_) <;> (refine goS ?_ <;> repeat (intro _ <;> refine goS ?_))
    (refine bnS (fun hr h => ?_) (fun hr h => ?_) <;> first | (exfalso; omega) | ((refine goS ?_ <;> repeat (intro _ <;> refine goS ?_))))
    refine ret_now _ ?_ <;> (refine goS ?_ <;> repeat (intro _ <;> refine goS ?_))
    exact ret_met (s' := s) rfl nofun rfl (frz_rows rfl rfl rfl) rfl rfl
  · obtain ⟨i, hi, hil⟩ := find_at (s := s) (id := r.id) (by omega)
    have e0 : doForget s r = if overB (s.at i) = false then (7, zS) else (0, ⟨r.epoch, s.next, s.lives, s.ack, s.allocs.eraseIdx i⟩) := by
      unfold doForget; rw [if_neg h1, if_neg h2, hi]; rfl
    have hO := stateOver_p (s.at i)
    rw [hi] at hF
    rw [e0]
    clear e0 h2 hi
    refine ACalls.ev Tryz.f92 mx Tryz.func92 (by kernel_rfl) rfl ?_ <;> (refine goS ?_ <;> repeat (intro _ <;> refine goS ?_))
    refine ACalls.ev Tryz.f163 mx Tryz.func163 (by kernel_rfl) rfl ?_ <;> (refine goS ?_ <;> repeat (intro _ <;> refine goS ?_))
    (refine bnS (fun hr h => ?_) (fun hr h => ?_) <;> first | (exfalso; omega) | ((refine goS ?_ <;> repeat (intro _ <;> refine goS ?_))))
    (first | refine ACalls.deep (hF) rfl (.cons (dth_st (dth_rows rfl rfl)) (.cons (.inl ⟨rfl, rfl⟩) .nil)) ?_ | refine HCall.deep (hF) rfl (.cons (dth_st (dth_rows rfl rfl)) (.cons (.inl ⟨rfl, rfl⟩) .nil)) ?_) <;> (refine goS ?_ <;> repeat (intro _ <;> refine goS ?_))
    refine ret_now _ ?_ <;> (refine goS ?_ <;> repeat (intro _ <;> refine goS ?_))
    (rw [evN_load_own (row := (Alloc.fv (s.at i)).map FV.up) (y := (s.at i).av)]; rotate_left 1; exact rfl; exact rfl; exact rfl; exact rowsL_ix hil; exact rfl; exact rfl) <;> (refine goS ?_ <;> repeat (intro _ <;> refine goS ?_))
    (first | refine Pure.call (hO) ?_ | refine HCall.pure (hO) ?_) <;> (refine goS ?_ <;> repeat (intro _ <;> refine goS ?_))
    cases ho : overB (s.at i)
    · rw [if_pos rfl]
      (refine goS ?_ <;> repeat (intro _ <;> refine goS ?_))
      exact ret_met (s' := s) rfl nofun rfl (frz_rows rfl rfl rfl) rfl rfl
    · rw [if_neg nofun]
      (refine goS ?_ <;> repeat (intro _ <;> refine goS ?_))
      rw [wrapS (by omega)]
      (refine goS ?_ <;> repeat (intro _ <;> refine goS ?_))
      (rw [rowsOf_own (X := rowsL Alloc.fv (s.allocs.drop (i + 1)))]; rotate_left 1; exact rfl; exact rfl; exact rfl; exact (by simp [rowsL]; omega); exact rowsL_part (by simp) (by omega)) <;> (refine goS ?_ <;> repeat (intro _ <;> refine goS ?_))
      rcases Nat.lt_or_ge (i + 1) s.allocs.length with hlt | hge
      · refine onB_f (ble_no (by simp [rowsL]; omega)) ?_ <;> (refine goS ?_ <;> repeat (intro _ <;> refine goS ?_))
        refine And.intro ⟨by simp [rowsL]; omega, by show _ * 128 ≤ _; simp [rowsL]; omega⟩ ?_ <;> (refine goS ?_ <;> repeat (intro _ <;> refine goS ?_))
        have hrows : (((rowsL Alloc.fv s.allocs).drop (0 + Int.toNat 0)).take (((i : Int) - 0).toNat) ++ rowsL Alloc.fv (s.allocs.drop (i + 1)) : List (List AV)) = rowsL Alloc.fv (s.allocs.eraseIdx i) := by
          rw [List.eraseIdx_eq_take_drop_succ]
          simp [rowsL]
        exact ret_met (s' := ⟨r.epoch, s.next, s.lives, s.ack, s.allocs.eraseIdx i⟩) rfl (fun _ => rfl) rfl (frz_rows' (by simp [rowsL, List.length_eraseIdx, hil]; omega) rfl (congrArg (fun r => some (E.Blk.mk 10 r none)) hrows)) rfl rfl
      · have hd : s.allocs.drop (i + 1) = [] := List.drop_of_length_le (by omega)
        rw [hd]
        refine onB_t (ble_yes (Nat.le_refl _)) ?_ <;> (refine goS ?_ <;> repeat (intro _ <;> refine goS ?_))
        refine And.intro ⟨by simp [rowsL]; omega, nofun⟩ ?_ <;> (refine goS ?_ <;> repeat (intro _ <;> refine goS ?_))
        refine ret_met (s' := ⟨r.epoch, s.next, s.lives, s.ack, s.allocs.eraseIdx i⟩) rfl (fun _ => rfl) rfl (frz_rng' (by simp [List.length_eraseIdx, hil]; omega) rfl (congrArg (fun r => some (E.Blk.mk 10 r none)) over_nil) fun k hk => ?_) rfl rfl
        simp only [List.length_eraseIdx, hil, if_true] at hk
        rw [rowsL_at (by omega)]
        dsimp only
        rw [show (s.allocs.eraseIdx i).getD k default = s.allocs.getD k default by simp [List.getD_eq_getElem?_getD, List.getElem?_eraseIdx, show k < i by omega]]
theorem frz_als {z : Nat → Bool} {H : Hp} {d a t i cap : Nat} {ex : Bool} {s : State} (ha : z a = true) (ht : z t = true) (hg : H.get a = some ⟨10, rowsAt s i t, none⟩) (hg2 : H.get t = some ⟨8, rowsL Task.fv (s.allocs.getD i default).tasks, none⟩) : Frz z H (d + 3) (.hsl a 10 0 s.allocs.length cap ex) (slA s.allocs) := by
  have := frz_al (d := d) (cap := cap) (ex := ex) (L := s.allocs) (i := i) (A := s.allocs.getD i default) ha ht rfl hg hg2
  rwa [set_getD] at this
theorem rowsAt_ix {s : State} {i id : Nat} (h : i < s.allocs.length) : (rowsAt s i id)[0 + ((i : Int)).toNat]? = some (rowA (s.at i) (tkV id (s.at i).tasks.length)) := by
  rw [Nat.zero_add, toNat_nat, rowsAt_at h, if_pos rfl]; rfl
theorem rowsL_tk {L : List Task} {x : Int} (h0 : 0 ≤ x) (h : x < L.length) : (rowsL Task.fv L)[0 + x.toNat]? = some ((Task.fv (L.getD x.toNat default)).map FV.up) := by
  rw [Nat.zero_add]; exact rowsL_at (by omega)
/-- A record of a task whose allocation is there. -/
noncomputable def doTurnI (s : State) (i : Nat) (r : Rec) : Int × State :=
  if r.task < 0 ∨ ((s.at i).tasks.length : Int) ≤ r.task ∨ (r.kind = 4 ∧ s.next = mT) then (3, zS) else
  if (turnT s (s.at i) ((s.at i).tk r.task) ((s.at i).pol r.task) r).1 ≠ 0 then ((turnT s (s.at i) ((s.at i).tk r.task) ((s.at i).pol r.task) r).1, zS) else
  (0, ⟨s.epoch, if r.kind = 4 then s.next + 1 else s.next, s.lives, s.ack, s.allocs.set i ((s.at i).put (s.at i).stop ((s.at i).tasks.set r.task.toNat (turnT s (s.at i) ((s.at i).tk r.task) ((s.at i).pol r.task) r).2))⟩)
theorem doTurn_i {s : State} {i : Nat} {r : Rec} (hi : findG s.allocs r.id 0 = i) : doTurn s r = doTurnI s i r := by
  unfold doTurn doTurnI
  rw [hi, if_neg (by omega), toNat_nat]
theorem turn_1 {s : State} {i : Nat} {r : Rec} (h : r.task < 0 ∨ ((s.at i).tasks.length : Int) ≤ r.task ∨ (r.kind = 4 ∧ s.next = mT)) : doTurnI s i r = (3, zS) := if_pos h
theorem turn_2 {s : State} {i : Nat} {r : Rec} {z : Int × Task} (h : ¬ (r.task < 0 ∨ ((s.at i).tasks.length : Int) ≤ r.task ∨ (r.kind = 4 ∧ s.next = mT))) (hz : turnT s (s.at i) ((s.at i).tk r.task) ((s.at i).pol r.task) r = z) (h0 : z.1 ≠ 0) : doTurnI s i r = (z.1, zS) := by
  unfold doTurnI; rw [if_neg h, hz, if_pos h0]
theorem turn_3 {s : State} {i : Nat} {r : Rec} {z : Int × Task} (h : ¬ (r.task < 0 ∨ ((s.at i).tasks.length : Int) ≤ r.task ∨ (r.kind = 4 ∧ s.next = mT))) (hz : turnT s (s.at i) ((s.at i).tk r.task) ((s.at i).pol r.task) r = z) (h0 : z.1 = 0) : doTurnI s i r = (0, ⟨s.epoch, if r.kind = 4 then s.next + 1 else s.next, s.lives, s.ack, s.allocs.set i ((s.at i).put (s.at i).stop ((s.at i).tasks.set r.task.toNat z.2))⟩) := by
  unfold doTurnI; rw [if_neg h, hz, if_neg (not_not_intro h0)]
theorem rowsL_set {fv : Task → List FV} {L : List Task} {k : Nat} {t : Task} : (rowsL fv L).set k ((fv t).map FV.up) = rowsL fv (L.set k t) := by
  simp [rowsL, List.map_set]
theorem rowsAt_put {s : State} {i t : Nat} {L : List Task} (h : L.length = (s.at i).tasks.length) : rowsAt s i t = (rowsL Alloc.fv s.allocs).set i (rowA ((s.at i).put (s.at i).stop L) (tkV t ((s.at i).put (s.at i).stop L).tasks.length)) := by
  show _ = (rowsL Alloc.fv s.allocs).set i (rowA ((s.at i).put (s.at i).stop L) (tkV t L.length))
  rw [h]; rfl
set_option maxHeartbeats 4000000 in
theorem intent_m (c : Config) (s : State) (i : Nat) (r : Rec) (hk : r.kind = 4) (hn : s.allocs.length ≤ 1000) (hil : i < s.allocs.length) (hi : findG s.allocs r.id 0 = i) (hx : inR s.next 1 mT) (hl : (s.at i).tasks.length = (s.at i).spec.tasks.length) (hs : ∀ k, 0 ≤ ((s.at i).tk k).state) : MetN 93 c s i r (doTurnI s i r) := by
  have hF := find_p s r.id
  rw [hi] at hF
  unfold inR mT at hx
  refine ACalls.ev Tryz.f93 mx Tryz.func93 (by kernel_rfl) rfl ?_ <;> (refine goS ?_ <;> repeat (intro _ <;> refine goS ?_))
  refine ACalls.ev Tryz.f165 mx Tryz.func165 (by kernel_rfl) rfl ?_ <;> (refine goS ?_ <;> repeat (intro _ <;> refine goS ?_))
  (first | refine ACalls.deep (hF) rfl (.cons (dth_st (dth_al rfl rfl)) (.cons (.inl ⟨rfl, rfl⟩) .nil)) ?_ | refine HCall.deep (hF) rfl (.cons (dth_st (dth_al rfl rfl)) (.cons (.inl ⟨rfl, rfl⟩) .nil)) ?_) <;> (refine goS ?_ <;> repeat (intro _ <;> refine goS ?_))
  (refine bnS (fun hr h => ?_) (fun hr h => ?_) <;> first | (exact False.elim h) | ((refine goS ?_ <;> repeat (intro _ <;> refine goS ?_))))
  · rw [turn_1 (.inl h)]
    refine ret_now _ ?_ <;> (refine goS ?_ <;> repeat (intro _ <;> refine goS ?_))
    exact ret_met (s' := s) rfl nofun rfl (frz_als rfl rfl rfl rfl) rfl rfl
  · (rw [evN_load_own (row := rowA (s.at i) (tkV 2 (s.at i).tasks.length)) (y := tkV 2 (s.at i).tasks.length)]; rotate_left 1; exact rfl; exact rfl; exact rfl; exact rowsAt_ix hil; exact rfl; exact rfl) <;> (refine goS ?_ <;> repeat (intro _ <;> refine goS ?_))
    (refine bnS (fun hr h => ?_) (fun hr h => ?_) <;> first | (exact False.elim h) | ((refine goS ?_ <;> repeat (intro _ <;> refine goS ?_))))
    · rw [turn_1 (.inr (.inl h))]
      refine ret_now _ ?_ <;> (refine goS ?_ <;> repeat (intro _ <;> refine goS ?_))
      exact ret_met (s' := s) rfl nofun rfl (frz_als rfl rfl rfl rfl) rfl rfl
    · (rw [evN_load_own (row := rowA (s.at i) (tkV 2 (s.at i).tasks.length)) (y := tkV 2 (s.at i).tasks.length)]; rotate_left 1; exact rfl; exact rfl; exact rfl; exact rowsAt_ix hil; exact rfl; exact rfl) <;> (refine goS ?_ <;> repeat (intro _ <;> refine goS ?_))
      refine ret_now _ ?_ <;> (refine goS ?_ <;> repeat (intro _ <;> refine goS ?_))
      (refine bnS (fun hr h => ?_) (fun hr h => ?_) <;> first | (exact False.elim h) | ((refine goS ?_ <;> repeat (intro _ <;> refine goS ?_))))
      · rw [turn_1 (.inr (.inr ⟨hk, h⟩))]
        exact ret_met (s' := s) rfl nofun rfl (frz_als rfl rfl rfl rfl) rfl rfl
      · have hc : ¬ (r.task < 0 ∨ ((s.at i).tasks.length : Int) ≤ r.task ∨ (r.kind = 4 ∧ s.next = mT)) := by unfold mT; omega
        have ht0 : 0 ≤ r.task := by omega
        have ht1 : r.task < (s.at i).tasks.length := by omega
        (rw [evN_load_own (row := (Task.fv ((s.at i).tk r.task)).map FV.up) (y := ((s.at i).tk r.task).av)]; rotate_left 1; exact rfl; exact rfl; exact rfl; exact rowsL_tk ht0 ht1; exact rfl; exact rfl) <;> (refine goS ?_ <;> repeat (intro _ <;> refine goS ?_))
        (rw [evN_load_own (row := rowA (s.at i) (tkV 2 (s.at i).tasks.length)) (y := slS (s.at i).spec.tasks)]; rotate_left 1; exact rfl; exact rfl; exact rfl; exact rowsAt_ix hil; exact rfl; exact rfl) <;> (refine goS ?_ <;> repeat (intro _ <;> refine goS ?_))
        (first | refine Pure.call (taskIntent_p ((s.at i).tk r.task) ((s.at i).pol r.task) s.next r.tick (hs _)) ?_ | refine HCall.pure (taskIntent_p ((s.at i).tk r.task) ((s.at i).pol r.task) s.next r.tick (hs _)) ?_) <;> (refine goS ?_ <;> repeat (intro _ <;> refine goS ?_))
        have hz : turnT s (s.at i) ((s.at i).tk r.task) ((s.at i).pol r.task) r = intentT ((s.at i).tk r.task) ((s.at i).pol r.task) s.next r.tick := if_pos hk
        generalize hZ : intentT ((s.at i).tk r.task) ((s.at i).pol r.task) s.next r.tick = z at hz ⊢
        (refine bnS (fun hr h => ?_) (fun hr h => ?_) <;> first | (exact False.elim h) | ((refine goS ?_ <;> repeat (intro _ <;> refine goS ?_))))
        · (rw [evStore_eq (row := (Task.fv ((s.at i).tk r.task)).map FV.up) (rows' := rowsL Task.fv ((s.at i).tasks.set (0 + r.task.toNat) z.2))]; rotate_left 1; exact rfl; exact rfl; exact rfl; exact rowsL_tk ht0 ht1; exact rfl; exact rfl; exact rowsL_set) <;> (refine goS ?_ <;> repeat (intro _ <;> refine goS ?_))
          rw [turn_3 hc hz h, if_pos hk]
          rw [wrap_id (n := s.next + 1) (by omega) (by omega)]
          exact ret_met (s' := ⟨s.epoch, s.next + 1, s.lives, s.ack, s.allocs.set i ((s.at i).put (s.at i).stop ((s.at i).tasks.set r.task.toNat z.2))⟩) (congrArg I h) (fun _ => rfl) rfl (frz_al rfl rfl rfl (congrArg (fun r => some (E.Blk.mk 10 r none)) (rowsAt_put (by simp))) (congrArg (fun r => some (E.Blk.mk 8 r none)) (by rw [Nat.zero_add]; rfl))) rfl rfl
        · rw [turn_2 hc hz h]
          exact ret_met (s' := s) rfl (fun e => absurd e h) rfl (frz_als rfl rfl rfl rfl) rfl rfl
set_option maxHeartbeats 8000000 in
theorem simple_m (c : Config) (s : State) (i : Nat) (r : Rec) (hk : r.kind = 5 ∨ r.kind = 6 ∨ r.kind = 7 ∨ r.kind = 8) (hn : s.allocs.length ≤ 1000) (hil : i < s.allocs.length) (hi : findG s.allocs r.id 0 = i) (hl : (s.at i).tasks.length = (s.at i).spec.tasks.length) (hs : ∀ k, 0 ≤ ((s.at i).tk k).state) : MetN 94 c s i r (doTurnI s i r) := by
  have hF := find_p s r.id
  rw [hi] at hF
  have k4 : r.kind ≠ 4 := by omega
  have t1 : r.task < 0 → doTurnI s i r = (3, zS) := fun h => turn_1 (.inl h)
  have t2 : ((s.at i).tasks.length : Int) ≤ r.task → doTurnI s i r = (3, zS) := fun h => turn_1 (.inr (.inl h))
  have t3 : ∀ z : Int × Task, ¬ (r.task < 0 ∨ ((s.at i).tasks.length : Int) ≤ r.task) → turnT s (s.at i) ((s.at i).tk r.task) ((s.at i).pol r.task) r = z → z.1 ≠ 0 → doTurnI s i r = (z.1, zS) := fun z h1 h2 h3 => turn_2 (by omega) h2 h3
  have t4 : ∀ z : Int × Task, ¬ (r.task < 0 ∨ ((s.at i).tasks.length : Int) ≤ r.task) → turnT s (s.at i) ((s.at i).tk r.task) ((s.at i).pol r.task) r = z → z.1 = 0 → doTurnI s i r = (0, ⟨s.epoch, s.next, s.lives, s.ack, s.allocs.set i ((s.at i).put (s.at i).stop ((s.at i).tasks.set r.task.toNat z.2))⟩) := fun z h1 h2 h3 => by rw [turn_3 (by omega) h2 h3, if_neg k4]
  generalize doTurnI s i r = Z at t1 t2 t3 t4 ⊢
  clear k4 hi
  obtain ⟨k, ep, sp, id, ta, ti, wa, pi, no, co⟩ := r
  dsimp only at hk t1 t2 t3 t4 hF
  rcases hk with rfl | rfl | rfl | rfl
  all_goals
    refine ACalls.ev Tryz.f94 mx Tryz.func94 (by kernel_rfl) rfl ?_ <;> (refine goS ?_ <;> repeat (intro _ <;> refine goS ?_))
    refine ACalls.ev Tryz.f165 mx Tryz.func165 (by kernel_rfl) rfl ?_ <;> (refine goS ?_ <;> repeat (intro _ <;> refine goS ?_))
    (first | refine ACalls.deep (hF) rfl (.cons (dth_st (dth_al rfl rfl)) (.cons (.inl ⟨rfl, rfl⟩) .nil)) ?_ | refine HCall.deep (hF) rfl (.cons (dth_st (dth_al rfl rfl)) (.cons (.inl ⟨rfl, rfl⟩) .nil)) ?_) <;> (refine goS ?_ <;> repeat (intro _ <;> refine goS ?_))
    (refine bnS (fun hr h => ?_) (fun hr h => ?_) <;> first | (exact False.elim h) | ((refine goS ?_ <;> repeat (intro _ <;> refine goS ?_))))
    · rw [t1 h]
      refine ret_now _ ?_ <;> (refine goS ?_ <;> repeat (intro _ <;> refine goS ?_))
      exact ret_met (s' := s) rfl nofun rfl (frz_als rfl rfl rfl rfl) rfl rfl
    · (rw [evN_load_own (row := rowA (s.at i) (tkV 2 (s.at i).tasks.length)) (y := tkV 2 (s.at i).tasks.length)]; rotate_left 1; exact rfl; exact rfl; exact rfl; exact rowsAt_ix hil; exact rfl; exact rfl) <;> (refine goS ?_ <;> repeat (intro _ <;> refine goS ?_))
      (refine bnS (fun hr h => ?_) (fun hr h => ?_) <;> first | (exact False.elim h) | ((refine goS ?_ <;> repeat (intro _ <;> refine goS ?_))))
      · rw [t2 h]
        refine ret_now _ ?_ <;> (refine goS ?_ <;> repeat (intro _ <;> refine goS ?_))
        exact ret_met (s' := s) rfl nofun rfl (frz_als rfl rfl rfl rfl) rfl rfl
      · (rw [evN_load_own (row := rowA (s.at i) (tkV 2 (s.at i).tasks.length)) (y := tkV 2 (s.at i).tasks.length)]; rotate_left 1; exact rfl; exact rfl; exact rfl; exact rowsAt_ix hil; exact rfl; exact rfl) <;> (refine goS ?_ <;> repeat (intro _ <;> refine goS ?_))
        refine ret_now _ ?_ <;> (refine goS ?_ <;> repeat (intro _ <;> refine goS ?_))
        have hc : ¬ (ta < 0 ∨ ((s.at i).tasks.length : Int) ≤ ta) := by omega
        have ht0 : 0 ≤ ta := by omega
        have ht1 : ta < (s.at i).tasks.length := by omega
        (rw [evN_load_own (row := (Task.fv ((s.at i).tk ta)).map FV.up) (y := ((s.at i).tk ta).av)]; rotate_left 1; exact rfl; exact rfl; exact rfl; exact rowsL_tk ht0 ht1; exact rfl; exact rfl) <;> (refine goS ?_ <;> repeat (intro _ <;> refine goS ?_))
        repeat' (first
          | ((rw [evN_load_own (row := rowA (s.at i) (tkV 2 (s.at i).tasks.length)) (y := slS (s.at i).spec.tasks)]; rotate_left 1; exact rfl; exact rfl; exact rfl; exact rowsAt_ix hil; exact rfl; exact rfl) <;> (refine goS ?_ <;> repeat (intro _ <;> refine goS ?_)))
          | ((rw [evN_load_own (row := rowA (s.at i) (tkV 2 (s.at i).tasks.length)) (y := B (s.at i).stop)]; rotate_left 1; exact rfl; exact rfl; exact rfl; exact rowsAt_ix hil; exact rfl; exact rfl) <;> (refine goS ?_ <;> repeat (intro _ <;> refine goS ?_)))
          | ((first | refine Pure.call (taskHandle_p ((s.at i).tk ta) pi no (hs _)) ?_ | refine HCall.pure (taskHandle_p ((s.at i).tk ta) pi no (hs _)) ?_) <;> (refine goS ?_ <;> repeat (intro _ <;> refine goS ?_)))
          | ((first | refine Pure.call (taskFail_p ((s.at i).tk ta) (hs _)) ?_ | refine HCall.pure (taskFail_p ((s.at i).tk ta) (hs _)) ?_) <;> (refine goS ?_ <;> repeat (intro _ <;> refine goS ?_)))
          | ((first | refine Pure.call (taskKill_p ((s.at i).tk ta) (hs _)) ?_ | refine HCall.pure (taskKill_p ((s.at i).tk ta) (hs _)) ?_) <;> (refine goS ?_ <;> repeat (intro _ <;> refine goS ?_)))
          | ((first | refine Pure.call (taskExit_p ((s.at i).tk ta) ((s.at i).pol ta) (s.at i).stop co ti (hs _)) ?_ | refine HCall.pure (taskExit_p ((s.at i).tk ta) ((s.at i).pol ta) (s.at i).stop co ti (hs _)) ?_) <;> (refine goS ?_ <;> repeat (intro _ <;> refine goS ?_)))
          | (refine And.intro ⟨ht0, by rw [← hl]; exact ht1⟩ ?_ <;> (refine goS ?_ <;> repeat (intro _ <;> refine goS ?_))))
        first
          | (generalize hZ : handleT ((s.at i).tk ta) pi no = z
             have hz : turnT s (s.at i) ((s.at i).tk ta) ((s.at i).pol ta) ⟨5, ep, sp, id, ta, ti, wa, pi, no, co⟩ = z := hZ
             (refine bnS (fun hr h => ?_) (fun hr h => ?_) <;> first | (exact False.elim h) | ((refine goS ?_ <;> repeat (intro _ <;> refine goS ?_))))
             · rw [t4 z hc hz h]
               (rw [evStore_eq (row := (Task.fv ((s.at i).tk ta)).map FV.up) (rows' := rowsL Task.fv ((s.at i).tasks.set (0 + ta.toNat) z.2))]; rotate_left 1; exact rfl; exact rfl; exact rfl; exact rowsL_tk ht0 ht1; exact rfl; exact rfl; exact rowsL_set) <;> (refine goS ?_ <;> repeat (intro _ <;> refine goS ?_))
               exact ret_met (s' := ⟨s.epoch, s.next, s.lives, s.ack, s.allocs.set i ((s.at i).put (s.at i).stop ((s.at i).tasks.set ta.toNat z.2))⟩) (congrArg I h) (fun _ => rfl) rfl (frz_al rfl rfl rfl (congrArg (fun r => some (E.Blk.mk 10 r none)) (rowsAt_put (by simp))) (congrArg (fun r => some (E.Blk.mk 8 r none)) (by rw [Nat.zero_add]; rfl))) rfl rfl
             · rw [t3 z hc hz h]
               exact ret_met (s' := s) rfl (fun e => absurd e h) rfl (frz_als rfl rfl rfl rfl) rfl rfl)
          | (generalize hZ : failT ((s.at i).tk ta) = z
             have hz : turnT s (s.at i) ((s.at i).tk ta) ((s.at i).pol ta) ⟨6, ep, sp, id, ta, ti, wa, pi, no, co⟩ = z := hZ
             (refine bnS (fun hr h => ?_) (fun hr h => ?_) <;> first | (exact False.elim h) | ((refine goS ?_ <;> repeat (intro _ <;> refine goS ?_))))
             · rw [t4 z hc hz h]
               (rw [evStore_eq (row := (Task.fv ((s.at i).tk ta)).map FV.up) (rows' := rowsL Task.fv ((s.at i).tasks.set (0 + ta.toNat) z.2))]; rotate_left 1; exact rfl; exact rfl; exact rfl; exact rowsL_tk ht0 ht1; exact rfl; exact rfl; exact rowsL_set) <;> (refine goS ?_ <;> repeat (intro _ <;> refine goS ?_))
               exact ret_met (s' := ⟨s.epoch, s.next, s.lives, s.ack, s.allocs.set i ((s.at i).put (s.at i).stop ((s.at i).tasks.set ta.toNat z.2))⟩) (congrArg I h) (fun _ => rfl) rfl (frz_al rfl rfl rfl (congrArg (fun r => some (E.Blk.mk 10 r none)) (rowsAt_put (by simp))) (congrArg (fun r => some (E.Blk.mk 8 r none)) (by rw [Nat.zero_add]; rfl))) rfl rfl
             · rw [t3 z hc hz h]
               exact ret_met (s' := s) rfl (fun e => absurd e h) rfl (frz_als rfl rfl rfl rfl) rfl rfl)
          | (generalize hZ : killT ((s.at i).tk ta) = z
             have hz : turnT s (s.at i) ((s.at i).tk ta) ((s.at i).pol ta) ⟨7, ep, sp, id, ta, ti, wa, pi, no, co⟩ = z := hZ
             (refine bnS (fun hr h => ?_) (fun hr h => ?_) <;> first | (exact False.elim h) | ((refine goS ?_ <;> repeat (intro _ <;> refine goS ?_))))
             · rw [t4 z hc hz h]
               (rw [evStore_eq (row := (Task.fv ((s.at i).tk ta)).map FV.up) (rows' := rowsL Task.fv ((s.at i).tasks.set (0 + ta.toNat) z.2))]; rotate_left 1; exact rfl; exact rfl; exact rfl; exact rowsL_tk ht0 ht1; exact rfl; exact rfl; exact rowsL_set) <;> (refine goS ?_ <;> repeat (intro _ <;> refine goS ?_))
               exact ret_met (s' := ⟨s.epoch, s.next, s.lives, s.ack, s.allocs.set i ((s.at i).put (s.at i).stop ((s.at i).tasks.set ta.toNat z.2))⟩) (congrArg I h) (fun _ => rfl) rfl (frz_al rfl rfl rfl (congrArg (fun r => some (E.Blk.mk 10 r none)) (rowsAt_put (by simp))) (congrArg (fun r => some (E.Blk.mk 8 r none)) (by rw [Nat.zero_add]; rfl))) rfl rfl
             · rw [t3 z hc hz h]
               exact ret_met (s' := s) rfl (fun e => absurd e h) rfl (frz_als rfl rfl rfl rfl) rfl rfl)
          | (generalize hZ : exitT ((s.at i).tk ta) ((s.at i).pol ta) (s.at i).stop co ti = z
             have hz : turnT s (s.at i) ((s.at i).tk ta) ((s.at i).pol ta) ⟨8, ep, sp, id, ta, ti, wa, pi, no, co⟩ = z := hZ
             (refine bnS (fun hr h => ?_) (fun hr h => ?_) <;> first | (exact False.elim h) | ((refine goS ?_ <;> repeat (intro _ <;> refine goS ?_))))
             · rw [t4 z hc hz h]
               (rw [evStore_eq (row := (Task.fv ((s.at i).tk ta)).map FV.up) (rows' := rowsL Task.fv ((s.at i).tasks.set (0 + ta.toNat) z.2))]; rotate_left 1; exact rfl; exact rfl; exact rfl; exact rowsL_tk ht0 ht1; exact rfl; exact rfl; exact rowsL_set) <;> (refine goS ?_ <;> repeat (intro _ <;> refine goS ?_))
               exact ret_met (s' := ⟨s.epoch, s.next, s.lives, s.ack, s.allocs.set i ((s.at i).put (s.at i).stop ((s.at i).tasks.set ta.toNat z.2))⟩) (congrArg I h) (fun _ => rfl) rfl (frz_al rfl rfl rfl (congrArg (fun r => some (E.Blk.mk 10 r none)) (rowsAt_put (by simp))) (congrArg (fun r => some (E.Blk.mk 8 r none)) (by rw [Nat.zero_add]; rfl))) rfl rfl
             · rw [t3 z hc hz h]
               exact ret_met (s' := s) rfl (fun e => absurd e h) rfl (frz_als rfl rfl rfl rfl) rfl rfl)
noncomputable def doStopI (s : State) (i : Nat) (r : Rec) : Int × State :=
  if r.epoch < s.epoch then (13, zS) else if (s.at i).stop = true ∨ overB (s.at i) = true then (7, zS) else
  (0, ⟨r.epoch, s.next, s.lives, s.ack, s.allocs.set i ((s.at i).put true ((s.at i).tasks.map (stop1 (r.tick + r.wait))))⟩)
theorem dth_row {H : Hp} {d id cap : Nat} {ex : Bool} {a : Alloc} (hg : H.get id = some ⟨8, rowsL Task.fv a.tasks, none⟩) : DTh H (d + 3) (.agg (rowA a (.hsl id 8 0 a.tasks.length cap ex))) a.av :=
  .inr (.cons (.inl ⟨rfl, rfl⟩) (.cons (.inl ⟨rfl, rfl⟩) (.cons (.inl ⟨rfl, rfl⟩) (.cons (.inl ⟨rfl, rfl⟩) (.cons (.inl ⟨rfl, rfl⟩) (.cons (.inl ⟨rfl, rfl⟩) (.cons (.inl ⟨rfl, rfl⟩) (.cons (.inl ⟨rfl, rfl⟩) (.cons (.inl ⟨rfl, rfl⟩) (.cons (dth_rows hg rfl) .nil))))))))))
noncomputable def stopTo (n : Int) (L : List Task) (k : Nat) : List Task := (L.take k).map (stop1 n) ++ L.drop k
theorem stopTo_len {n : Int} {L : List Task} {k : Nat} : (stopTo n L k).length = L.length := by simp [stopTo]; omega
theorem stopTo_0 {n : Int} {L : List Task} : stopTo n L 0 = L := by simp [stopTo]
theorem stopTo_all {n : Int} {L : List Task} {k : Nat} (h : L.length ≤ k) : stopTo n L k = L.map (stop1 n) := by simp [stopTo, List.take_of_length_le h, List.drop_of_length_le h]
theorem stopTo_set {n : Int} {L : List Task} {k : Nat} (h : k < L.length) : (stopTo n L k).set k (stop1 n (L.getD k default)) = stopTo n L (k + 1) := by
  apply List.ext_getElem
  · simp [stopTo]; omega
  · intro j h1 h2
    simp only [stopTo, List.getElem_set, List.getElem_append, List.length_map, List.length_take, List.getElem_map, List.getElem_take, List.getElem_drop]
    by_cases c : k = j
    · subst c
      simp [List.getD_eq_getElem?_getD, h, show k < min (k + 1) L.length by omega]
    · rw [if_neg c]
      by_cases c2 : j < k
      · rw [dif_pos (by omega), dif_pos (by omega)]
      · rw [dif_neg (by omega), dif_neg (by omega)]
        congr 1; simp at h1; omega
theorem stopTo_at {n : Int} {L : List Task} {k : Nat} (h : k < L.length) : (stopTo n L k).getD k default = L.getD k default := by
  simp [stopTo, List.getD_eq_getElem?_getD, List.getElem?_append, show min k L.length = k by omega]
theorem stopTo_row {n : Int} {L : List Task} {k : Nat} (h : k < L.length) : (rowsL Task.fv (stopTo n L k))[0 + ((k : Int)).toNat]? = some ((Task.fv (L.getD k default)).map FV.up) := by
  rw [rowsL_at' (by rw [stopTo_len]; exact h), stopTo_at h]
theorem stopT_0 {t : Task} {n : Int} (h1 : errT t = 0) (h2 : inR n 0 (2 * mT)) (h4 : t.state ≠ 4) : (stopT t n).1 = 0 := by
  unfold stopT chgT doStop
  rw [if_neg (not_not_intro h1), if_pos h2, if_neg (not_not_intro rfl), if_neg h4]
  split <;> (split <;> (try split) <;> simp_all)
set_option maxHeartbeats 4000000 in
theorem stop_m (c : Config) (s : State) (i : Nat) (r : Rec) (hn : s.allocs.length ≤ 1000) (hil : i < s.allocs.length) (hi : findG s.allocs r.id 0 = i) (hw : inR (r.tick + r.wait) 0 (2 * mT)) (hlt : (s.at i).tasks.length ≤ 1000) (ht : ∀ k, k < (s.at i).tasks.length → 0 ≤ ((s.at i).tk k).state ∧ errT ((s.at i).tk k) = 0 ∧ ((s.at i).stop = false → ((s.at i).tk k).state ≠ 4)) : MetN 91 c s i r (doStopI s i r) := by
  have hF := find_p s r.id
  have hO := stateOver_p (s.at i)
  rw [hi] at hF
  by_cases h1 : r.epoch < s.epoch
  · have e : doStopI s i r = (13, zS) := if_pos h1
    rw [e]
    refine ACalls.ev Tryz.f91 mx Tryz.func91 (by kernel_rfl) rfl ?_ <;> (refine goS ?_ <;> repeat (intro _ <;> refine goS ?_))
    refine ACalls.ev Tryz.f163 mx Tryz.func163 (by kernel_rfl) rfl ?_ <;> (refine goS ?_ <;> repeat (intro _ <;> refine goS ?_))
    (refine bnS (fun hr h => ?_) (fun hr h => ?_) <;> first | (exfalso; omega) | ((refine goS ?_ <;> repeat (intro _ <;> refine goS ?_))))
    refine ret_now _ ?_ <;> (refine goS ?_ <;> repeat (intro _ <;> refine goS ?_))
    exact ret_met (s' := s) rfl nofun rfl (frz_als rfl rfl rfl rfl) rfl rfl
  by_cases h2 : (s.at i).stop = true
  · have e : doStopI s i r = (7, zS) := by unfold doStopI; rw [if_neg h1, if_pos (.inl h2)]
    rw [e]
    refine ACalls.ev Tryz.f91 mx Tryz.func91 (by kernel_rfl) rfl ?_ <;> (refine goS ?_ <;> repeat (intro _ <;> refine goS ?_))
    refine ACalls.ev Tryz.f163 mx Tryz.func163 (by kernel_rfl) rfl ?_ <;> (refine goS ?_ <;> repeat (intro _ <;> refine goS ?_))
    (refine bnS (fun hr h => ?_) (fun hr h => ?_) <;> first | (exfalso; omega) | ((refine goS ?_ <;> repeat (intro _ <;> refine goS ?_))))
    (first | refine ACalls.deep (hF) rfl (.cons (dth_st (dth_al rfl rfl)) (.cons (.inl ⟨rfl, rfl⟩) .nil)) ?_ | refine HCall.deep (hF) rfl (.cons (dth_st (dth_al rfl rfl)) (.cons (.inl ⟨rfl, rfl⟩) .nil)) ?_) <;> (refine goS ?_ <;> repeat (intro _ <;> refine goS ?_))
    refine ret_now _ ?_ <;> (refine goS ?_ <;> repeat (intro _ <;> refine goS ?_))
    (rw [evN_load_own (row := rowA (s.at i) (tkV 2 (s.at i).tasks.length)) (y := B (s.at i).stop)]; rotate_left 1; exact rfl; exact rfl; exact rfl; exact rowsAt_ix hil; exact rfl; exact rfl) <;> (refine goS ?_ <;> repeat (intro _ <;> refine goS ?_))
    refine ret_met (s' := s) rfl nofun rfl (frz_als rfl rfl rfl rfl) rfl rfl
  · have h2' : (s.at i).stop = false := by simpa using h2
    have e0 : doStopI s i r = if overB (s.at i) = true then (7, zS) else (0, ⟨r.epoch, s.next, s.lives, s.ack, s.allocs.set i ((s.at i).put true ((s.at i).tasks.map (stop1 (r.tick + r.wait))))⟩) := by
      unfold doStopI; rw [if_neg h1, h2']; simp
    rw [e0]
    refine ACalls.ev Tryz.f91 mx Tryz.func91 (by kernel_rfl) rfl ?_ <;> (refine goS ?_ <;> repeat (intro _ <;> refine goS ?_))
    refine ACalls.ev Tryz.f163 mx Tryz.func163 (by kernel_rfl) rfl ?_ <;> (refine goS ?_ <;> repeat (intro _ <;> refine goS ?_))
    (refine bnS (fun hr h => ?_) (fun hr h => ?_) <;> first | (exfalso; omega) | ((refine goS ?_ <;> repeat (intro _ <;> refine goS ?_))))
    (first | refine ACalls.deep (hF) rfl (.cons (dth_st (dth_al rfl rfl)) (.cons (.inl ⟨rfl, rfl⟩) .nil)) ?_ | refine HCall.deep (hF) rfl (.cons (dth_st (dth_al rfl rfl)) (.cons (.inl ⟨rfl, rfl⟩) .nil)) ?_) <;> (refine goS ?_ <;> repeat (intro _ <;> refine goS ?_))
    refine ret_now _ ?_ <;> (refine goS ?_ <;> repeat (intro _ <;> refine goS ?_))
    (rw [evN_load_own (row := rowA (s.at i) (tkV 2 (s.at i).tasks.length)) (y := B (s.at i).stop)]; rotate_left 1; exact rfl; exact rfl; exact rfl; exact rowsAt_ix hil; exact rfl; exact rfl) <;> (refine goS ?_ <;> repeat (intro _ <;> refine goS ?_))
    (rw [evN_load_own (row := rowA (s.at i) (tkV 2 (s.at i).tasks.length)) (y := .agg (rowA (s.at i) (tkV 2 (s.at i).tasks.length)))]; rotate_left 1; exact rfl; exact rfl; exact rfl; exact rowsAt_ix hil; exact rfl; exact rfl) <;> (refine goS ?_ <;> repeat (intro _ <;> refine goS ?_))
    (first | refine ACalls.deep (hO) rfl (.cons (dth_row rfl) .nil) ?_ | refine HCall.deep (hO) rfl (.cons (dth_row rfl) .nil) ?_) <;> (refine goS ?_ <;> repeat (intro _ <;> refine goS ?_))
    cases ho : overB (s.at i)
    · rw [if_neg nofun]
      (refine goS ?_ <;> repeat (intro _ <;> refine goS ?_))
      (rw [evN_load_own (row := rowA (s.at i) (tkV 2 (s.at i).tasks.length)) (y := tkV 2 (s.at i).tasks.length)]; rotate_left 1; exact rfl; exact rfl; exact rfl; exact rowsAt_ix hil; exact rfl; exact rfl) <;> (refine goS ?_ <;> repeat (intro _ <;> refine goS ?_))
      refine loop_st (S := Nat) (fun k => [(0, .hptr 0 16 0 0), (3, .hptr 3 15 0 0), (6, I 0), (7, .hptr 1 10 (0 + ((i : Int)).toNat) 0), (39, tkV 2 (s.at i).tasks.length), (40, I (s.at i).tasks.length), (41, I k)])
        (fun k => ⟨4, [(3, some ⟨15, [r.fv.map FV.up], none⟩), (2, some ⟨8, rowsL Task.fv (stopTo (r.tick + r.wait) (s.at i).tasks k), none⟩), (1, some ⟨10, rowsAt s i 2, none⟩), (0, some ⟨16, [ndV c s (alV 1 s.allocs.length)], none⟩)]⟩)
        (fun k => k ≤ (s.at i).tasks.length) (fun k => (s.at i).tasks.length - k) 0
        (Wk.cut rfl ⟨⟨rfl, rfl⟩, ⟨rfl, rfl⟩, ⟨rfl, rfl⟩, ⟨rfl, rfl⟩, ⟨rfl, rfl⟩, ⟨rfl, rfl⟩, ⟨rfl, rfl⟩, trivial⟩ ⟨⟨rfl, rfl, row1 rfl, nofun⟩, ⟨congrArg (fun r => some (E.Blk.mk 8 r none)) (congrArg (rowsL Task.fv) stopTo_0.symm), rfl, bd_rows rowsL_free, nofun⟩, ⟨rfl, rfl, bd_set (bd_rows rowsL_free) rfl, nofun⟩, ⟨rfl, rfl, row1 rfl, nofun⟩, trivial⟩) (Nat.zero_le _) ?_
      intro k hk
      (refine goS ?_ <;> repeat (intro _ <;> refine goS ?_))
      (refine bnS (fun hr h => ?_) (fun hr h => ?_) <;> first | (exact False.elim h) | ((refine goS ?_ <;> repeat (intro _ <;> refine goS ?_))))
      · have hk2 : k < (s.at i).tasks.length := h
        have hk3 := ht k hk2
        (rw [evN_load_own (row := (Task.fv ((s.at i).tasks.getD k default)).map FV.up) (y := ((s.at i).tasks.getD k default).av)]; rotate_left 1; exact rfl; exact rfl; exact rfl; exact stopTo_row hk2; exact rfl; exact rfl) <;> (refine goS ?_ <;> repeat (intro _ <;> refine goS ?_))
        (first | refine Pure.call (taskOver_p ((s.at i).tasks.getD k default).state) ?_ | refine HCall.pure (taskOver_p ((s.at i).tasks.getD k default).state) ?_) <;> (refine goS ?_ <;> repeat (intro _ <;> refine goS ?_))
        have hs1 : ((s.at i).tasks.getD k default).state = ((s.at i).tk k).state := by unfold Alloc.tk; rw [toNat_nat]
        have hcut : ∀ u : Task, stop1 (r.tick + r.wait) ((s.at i).tasks.getD k default) = u → (rowsL Task.fv (stopTo (r.tick + r.wait) (s.at i).tasks k)).set k ((Task.fv u).map FV.up) = rowsL Task.fv (stopTo (r.tick + r.wait) (s.at i).tasks (k + 1)) := fun u e => by rw [rowsL_set, ← e, stopTo_set hk2]
        have hsame : stop1 (r.tick + r.wait) ((s.at i).tasks.getD k default) = (s.at i).tasks.getD k default → rowsL Task.fv (stopTo (r.tick + r.wait) (s.at i).tasks k) = rowsL Task.fv (stopTo (r.tick + r.wait) (s.at i).tasks (k + 1)) := fun e => by rw [← hcut _ e]; exact (set_same (by rw [← stopTo_row (n := r.tick + r.wait) hk2, Nat.zero_add, toNat_nat])).symm
        (refine bnS (fun hr h => ?_) (fun hr h => ?_) <;> first | (exact False.elim h) | ((refine goS ?_ <;> repeat (intro _ <;> refine goS ?_))))
        · have hst : stop1 (r.tick + r.wait) ((s.at i).tasks.getD k default) = (s.at i).tasks.getD k default := if_pos (.inl h)
          exact ⟨k + 1, by omega, hk2, Wk.cut rfl ⟨⟨rfl, rfl⟩, ⟨rfl, rfl⟩, ⟨rfl, rfl⟩, ⟨rfl, rfl⟩, ⟨rfl, rfl⟩, ⟨rfl, rfl⟩, ⟨congrArg I (wrapS (by omega)), rfl⟩, trivial⟩ ⟨⟨rfl, rfl, row1 rfl, nofun⟩, ⟨congrArg (fun r => some (E.Blk.mk 8 r none)) (hsame hst), rfl, bd_rows rowsL_free, nofun⟩, ⟨rfl, rfl, bd_set (bd_rows rowsL_free) rfl, nofun⟩, ⟨rfl, rfl, row1 rfl, nofun⟩, trivial⟩⟩
        · have ho1 : ¬ overT ((s.at i).tasks.getD k default).state := h
          (refine bnS (fun hr h => ?_) (fun hr h => ?_) <;> first | (exact False.elim h) | ((refine goS ?_ <;> repeat (intro _ <;> refine goS ?_))))
          · have hst : stop1 (r.tick + r.wait) ((s.at i).tasks.getD k default) = (s.at i).tasks.getD k default := if_pos (.inr h)
            exact ⟨k + 1, by omega, hk2, Wk.cut rfl ⟨⟨rfl, rfl⟩, ⟨rfl, rfl⟩, ⟨rfl, rfl⟩, ⟨rfl, rfl⟩, ⟨rfl, rfl⟩, ⟨rfl, rfl⟩, ⟨congrArg I (wrapS (by omega)), rfl⟩, trivial⟩ ⟨⟨rfl, rfl, row1 rfl, nofun⟩, ⟨congrArg (fun r => some (E.Blk.mk 8 r none)) (hsame hst), rfl, bd_rows rowsL_free, nofun⟩, ⟨rfl, rfl, bd_set (bd_rows rowsL_free) rfl, nofun⟩, ⟨rfl, rfl, row1 rfl, nofun⟩, trivial⟩⟩
          · have hst : stop1 (r.tick + r.wait) ((s.at i).tasks.getD k default) = (stopT ((s.at i).tasks.getD k default) (r.tick + r.wait)).2 := if_neg (fun e => e.elim ho1 h)
            have hz := stopT_0 (t := (s.at i).tasks.getD k default) (n := r.tick + r.wait) (by have := hk3.2.1; unfold Alloc.tk at this; rwa [toNat_nat] at this) hw (by rw [hs1]; exact hk3.2.2 h2')
            have hwr : IntKind.i64.wrap (r.tick + r.wait) = r.tick + r.wait := wrap_id (by have := hw.1; omega) (by have := hw.2; unfold mT at this; omega)
            have hT : Pure Tryz.prog 164 [((s.at i).tasks.getD k default).av, I (IntKind.i64.wrap (r.tick + r.wait))] (.tup [(stopT ((s.at i).tasks.getD k default) (r.tick + r.wait)).2.av, I 0]) := by
              rw [hwr, ← hz]
              exact taskStop_p _ _ (by rw [hs1]; exact hk3.1)
            (rw [evN_load_own (row := rowA (s.at i) (tkV 2 (s.at i).tasks.length)) (y := tkV 2 (s.at i).tasks.length)]; rotate_left 1; exact rfl; exact rfl; exact rfl; exact rowsAt_ix hil; exact rfl; exact rfl) <;> (refine goS ?_ <;> repeat (intro _ <;> refine goS ?_))
            (first | refine Pure.call (hT) ?_ | refine HCall.pure (hT) ?_) <;> (refine goS ?_ <;> repeat (intro _ <;> refine goS ?_))
            (rw [evStore_eq (row := (Task.fv ((s.at i).tasks.getD k default)).map FV.up) (rows' := rowsL Task.fv (stopTo (r.tick + r.wait) (s.at i).tasks (k + 1)))]; rotate_left 1; exact rfl; exact rfl; exact rfl; exact stopTo_row hk2; exact rfl; exact rfl; exact (by rw [Nat.zero_add, toNat_nat]; exact hcut _ hst)) <;> (refine goS ?_ <;> repeat (intro _ <;> refine goS ?_))
            exact ⟨k + 1, by omega, hk2, Wk.cut rfl ⟨⟨rfl, rfl⟩, ⟨rfl, rfl⟩, ⟨rfl, rfl⟩, ⟨rfl, rfl⟩, ⟨rfl, rfl⟩, ⟨rfl, rfl⟩, ⟨congrArg I (wrapS (by omega)), rfl⟩, trivial⟩ ⟨⟨rfl, rfl, row1 rfl, nofun⟩, ⟨rfl, rfl, bd_rows rowsL_free, nofun⟩, ⟨rfl, rfl, bd_set (bd_rows rowsL_free) rfl, nofun⟩, ⟨rfl, rfl, row1 rfl, nofun⟩, trivial⟩⟩
      · have hkn : k = (s.at i).tasks.length := by omega
        subst hkn
        (rw [evStore_eq (row := rowA (s.at i) (tkV 2 (s.at i).tasks.length)) (rows' := (rowsL Alloc.fv s.allocs).set i (rowA ((s.at i).put true ((s.at i).tasks.map (stop1 (r.tick + r.wait)))) (tkV 2 ((s.at i).tasks.map (stop1 (r.tick + r.wait))).length)))]; rotate_left 1; exact rfl; exact rfl; exact rfl; exact rowsAt_ix hil; exact rfl; exact rfl; exact (by rw [Nat.zero_add, toNat_nat, List.length_map]; exact List.set_set ..)) <;> (refine goS ?_ <;> repeat (intro _ <;> refine goS ?_))
        exact ret_met (s' := ⟨r.epoch, s.next, s.lives, s.ack, s.allocs.set i ((s.at i).put true ((s.at i).tasks.map (stop1 (r.tick + r.wait))))⟩) rfl (fun _ => rfl) rfl (frz_al rfl rfl rfl rfl (congrArg (fun r => some (E.Blk.mk 8 r none)) (congrArg (rowsL Task.fv) (stopTo_all (Nat.le_refl _))))) rfl rfl
    · rw [if_pos rfl]
      (refine goS ?_ <;> repeat (intro _ <;> refine goS ?_))
      refine ret_met (s' := s) rfl nofun rfl (frz_als rfl rfl rfl rfl) rfl rfl
theorem place_e1 {c : Config} {s : State} {r : Rec} (h : r.epoch < s.epoch) : doPlace c s r = (13, zS) := if_pos h
theorem place_e2 {c : Config} {s : State} {r : Rec} (h : ¬ r.epoch < s.epoch) (h2 : 0 ≤ findG s.allocs r.spec.id 0) : doPlace c s r = (8, zS) := by unfold doPlace; rw [if_neg h, if_pos h2]
theorem place_e3 {c : Config} {s : State} {r : Rec} (h : ¬ r.epoch < s.epoch) (h2 : ¬ 0 ≤ findG s.allocs r.spec.id 0) (h3 : c.allocs ≤ s.allocs.length ∨ roomB c (r.spec.res :: usedR s.allocs) = false) : doPlace c s r = (9, zS) := by unfold doPlace; rw [if_neg h, if_neg h2, if_pos h3]
theorem posA_drop {l : List Alloc} {id : Int} {k : Nat} (hk : k < l.length) (h : (l.getD k default).spec.id < id) : posA (l.drop k) id = posA (l.drop (k + 1)) id + 1 := by
  rw [dropAtD hk]
  unfold posA
  rw [List.takeWhile_cons, if_pos (decide_eq_true h)]
  rfl
theorem posA_stop {l : List Alloc} {id : Int} {k : Nat} (hk : k < l.length) (h : ¬ (l.getD k default).spec.id < id) : posA (l.drop k) id = 0 := by
  rw [dropAtD hk]
  unfold posA
  rw [List.takeWhile_cons, if_neg (by simpa using h)]
  rfl
theorem getD_in {α : Type} [Inhabited α] {l : List α} {i : Nat} (h : i < l.length) : l.getD i default ∈ l := by
  rw [List.getD_eq_getElem?_getD, List.getElem?_eq_getElem h]
  exact List.getElem_mem h
theorem posA_le {l : List Alloc} {id : Int} : posA l id ≤ l.length := by
  unfold posA
  exact (List.takeWhile_sublist _).length_le
theorem oneRows_al (L : List Alloc) : oneRows (rowsL Alloc.fv L) := fun row hr y hy => by
  obtain ⟨x, _, rfl⟩ := List.mem_map.1 hr
  exact List.all_eq_true.1 (show ((Alloc.fv x).map FV.up).all AV.one = true from rfl) y hy
def insA (s : State) (k : Nat) (a : Alloc) : List Alloc := s.allocs.take k ++ a :: s.allocs.drop k
/-- The allocation as it is made. -/
def newA0 (s : State) (x : Spec) : Alloc := ⟨x, s.lives, 0, false, List.replicate x.tasks.length default⟩
abbrev hpP (c : Config) (s : State) (r : Rec) (a : Alloc) : List (Nat × Option E.Blk) := [(4, some ⟨10, [a.fv.map FV.up], none⟩), (2, some ⟨15, [r.fv.map FV.up], none⟩), (1, some ⟨10, rowsL Alloc.fv s.allocs, none⟩), (0, some ⟨16, [ndV c s (alV 1 s.allocs.length)], none⟩)]
def newAt (s : State) (x : Spec) (n : Int) : Alloc := ⟨x, s.lives, n, false, List.replicate x.tasks.length default⟩
abbrev hpQ (c : Config) (s : State) (r : Rec) (k : Nat) (n : Int) : Hp := ⟨9, (8, some ⟨10, rowsL Alloc.fv (insA s k (newA0 s r.spec)), none⟩) :: (5, some ⟨5, [stV s (alV 8 (insA s k (newA0 s r.spec)).length)], none⟩) :: hpP c s r (newAt s r.spec n)⟩
theorem slots_le : ∀ (n : Nat) (l : List Int), (∀ m : Nat, m < n → (m : Int) ∈ l) → n ≤ l.length
  | 0, l, _ => Nat.zero_le _
  | n + 1, l, h => by
    have h1 := h n (Nat.lt_succ_self n)
    have h2 := slots_le n (l.erase n) fun m hm => (List.mem_erase_of_ne (by omega)).2 (h m (by omega))
    rw [List.length_erase_of_mem h1] at h2
    have := List.length_pos_of_mem h1
    omega
/-- The slots below n are taken, and the search goes on at n. -/
def slotI (l : List Alloc) (n : Nat) : Prop := (∀ m : Nat, m < n → ∃ a ∈ l, a.slot = (m : Int)) ∧ slotF l 9 0 = slotF l (9 - n) n
theorem slotI_len {l : List Alloc} {n : Nat} (h : slotI l n) : n ≤ l.length := by
  have := slots_le n (l.map fun a => a.slot) fun m hm => by
    obtain ⟨a, ha, e⟩ := h.1 m hm
    exact List.mem_map.2 ⟨a, ha, e⟩
  simpa using this
theorem slotI_0 (l : List Alloc) : slotI l 0 := ⟨fun m h => absurd h (Nat.not_lt_zero _), rfl⟩
theorem slotI_s {l : List Alloc} {n : Nat} (hl : l.length ≤ 8) (h : slotI l n) (ht : ∃ a ∈ l, a.slot = (n : Int)) : slotI l (n + 1) := by
  have := slotI_len h
  refine ⟨fun m hm => ?_, ?_⟩
  · by_cases e : m = n
    · rw [e]; exact ht
    · exact h.1 m (by omega)
  · rw [h.2, show 9 - n = (9 - (n + 1)) + 1 by omega]
    show (if _ then _ else _) = _
    rw [if_pos ht]
    rfl
theorem slotI_e {l : List Alloc} {n : Nat} (hl : l.length ≤ 8) (h : slotI l n) (ht : ¬ ∃ a ∈ l, a.slot = (n : Int)) : slotF l 9 0 = n := by
  have := slotI_len h
  rw [h.2, show 9 - n = (8 - n) + 1 by omega]
  show (if _ then _ else _) = _
  rw [if_neg ht]
theorem place_e4 {c : Config} {s : State} {r : Rec} (h : ¬ r.epoch < s.epoch) (h2 : ¬ 0 ≤ findG s.allocs r.spec.id 0) (h3 : ¬ (c.allocs ≤ s.allocs.length ∨ roomB c (r.spec.res :: usedR s.allocs) = false)) (h4 : ∃ y ∈ usedP s.allocs, meetF r.spec.ports y ≠ []) : doPlace c s r = (7, zS) := by unfold doPlace; rw [if_neg h, if_neg h2, if_neg h3, if_pos h4]
theorem place_e5 {c : Config} {s : State} {r : Rec} (h : ¬ r.epoch < s.epoch) (h2 : ¬ 0 ≤ findG s.allocs r.spec.id 0) (h3 : ¬ (c.allocs ≤ s.allocs.length ∨ roomB c (r.spec.res :: usedR s.allocs) = false)) (h4 : ¬ ∃ y ∈ usedP s.allocs, meetF r.spec.ports y ≠ []) (h5 : s.lives = mT) : doPlace c s r = (3, zS) := by unfold doPlace; rw [if_neg h, if_neg h2, if_neg h3, if_neg h4, if_pos h5]
theorem place_e6 {c : Config} {s : State} {r : Rec} (h : ¬ r.epoch < s.epoch) (h2 : ¬ 0 ≤ findG s.allocs r.spec.id 0) (h3 : ¬ (c.allocs ≤ s.allocs.length ∨ roomB c (r.spec.res :: usedR s.allocs) = false)) (h4 : ¬ ∃ y ∈ usedP s.allocs, meetF r.spec.ports y ≠ []) (h5 : ¬ s.lives = mT) : doPlace c s r = (0, ⟨r.epoch, s.next, s.lives + 1, s.ack, insA s (posA s.allocs r.spec.id) (newA s r.spec)⟩) := by unfold doPlace; rw [if_neg h, if_neg h2, if_neg h3, if_neg h4, if_neg h5]; rfl
set_option maxHeartbeats 4000000 in
theorem place_m (c : Config) (s : State) (r : Rec) (hn : s.allocs.length ≤ 900) (hp : r.spec.ports.length ≤ 1000) (htk : r.spec.tasks.length ≤ 1000) (hc8 : c.allocs ≤ 8) (hx : inR s.lives 1 mT)
    (hP : ∀ a ∈ insA s (posA s.allocs r.spec.id) (newA0 s r.spec), a.spec.ports.length ≤ 1000 ∧ ∀ x ∈ a.spec.ports, (Lit.int .i64 x).wf = true) (hA : pdisB (usedP (insA s (posA s.allocs r.spec.id) (newA0 s r.spec))) = true ↔ ¬ ∃ y ∈ usedP s.allocs, meetF r.spec.ports y ≠ []) : MetO 90 c s r (doPlace c s r) := by
  have hF := find_p s r.spec.id
  have hR := room_p c s r.spec.res (by omega)
  unfold inR mT at hx
  refine ACalls.ev Tryz.f90 mx Tryz.func90 (by kernel_rfl) rfl ?_ <;> (refine goS ?_ <;> repeat (intro _ <;> refine goS ?_))
  by_cases h1 : r.epoch < s.epoch
  · (refine bnS (fun hr h => ?_) (fun hr h => ?_) <;> first | (exfalso; omega) | ((refine goS ?_ <;> repeat (intro _ <;> refine goS ?_))))
    rw [place_e1 h1]
    exact ret_met (s' := s) rfl nofun rfl (frz_rows rfl rfl rfl) rfl rfl
  (refine bnS (fun hr h => ?_) (fun hr h => ?_) <;> first | (exfalso; omega) | ((refine goS ?_ <;> repeat (intro _ <;> refine goS ?_))))
  (first | refine ACalls.deep (hF) rfl (.cons (dth_st (dth_rows rfl rfl)) (.cons (.inl ⟨rfl, rfl⟩) .nil)) ?_ | refine HCall.deep (hF) rfl (.cons (dth_st (dth_rows rfl rfl)) (.cons (.inl ⟨rfl, rfl⟩) .nil)) ?_) <;> (refine goS ?_ <;> repeat (intro _ <;> refine goS ?_))
  by_cases h2 : 0 ≤ findG s.allocs r.spec.id 0
  · (refine bnS (fun hr h => ?_) (fun hr h => ?_) <;> first | (exfalso; omega) | ((refine goS ?_ <;> repeat (intro _ <;> refine goS ?_))))
    rw [place_e2 h1 h2]
    exact ret_met (s' := s) rfl nofun rfl (frz_rows rfl rfl rfl) rfl rfl
  (refine bnS (fun hr h => ?_) (fun hr h => ?_) <;> first | (exfalso; omega) | ((refine goS ?_ <;> repeat (intro _ <;> refine goS ?_))))
  (refine bnS (fun hr h => ?_) (fun hr h => ?_) <;> first | (exact False.elim h) | ((refine goS ?_ <;> repeat (intro _ <;> refine goS ?_))))
  · rw [place_e3 h1 h2 (.inl h)]
    exact ret_met (s' := s) rfl nofun rfl (frz_rows rfl rfl rfl) rfl rfl
  (first | refine ACalls.deep (hR) rfl (.cons (.inl ⟨rfl, rfl⟩) (.cons (dth_st (dth_rows rfl rfl)) (.cons (.inl ⟨rfl, rfl⟩) .nil))) ?_ | refine HCall.deep (hR) rfl (.cons (.inl ⟨rfl, rfl⟩) (.cons (dth_st (dth_rows rfl rfl)) (.cons (.inl ⟨rfl, rfl⟩) .nil))) ?_) <;> (refine goS ?_ <;> repeat (intro _ <;> refine goS ?_))
  cases hb : roomB c (r.spec.res :: usedR s.allocs)
  · (refine goS ?_ <;> repeat (intro _ <;> refine goS ?_))
    rw [place_e3 h1 h2 (.inr hb)]
    exact ret_met (s' := s) rfl nofun rfl (frz_rows rfl rfl rfl) rfl rfl
  (refine goS ?_ <;> repeat (intro _ <;> refine goS ?_))
  (first | refine Pure.call (specCopy_p r.spec (by omega) (by omega)) ?_ | refine HCall.pure (specCopy_p r.spec (by omega) (by omega)) ?_) <;> (refine goS ?_ <;> repeat (intro _ <;> refine goS ?_))
  refine And.intro ⟨by omega, by omega, by show (80 : Int) * _ ≤ _; omega, by omega⟩ ?_
  (refine goS1 ?_ <;> repeat (intro _ <;> refine goS1 ?_))
  refine SeqW.wk (Wk.frz (fr1 := [(0, .hptr 0 16 0 0), (3, .hptr 2 15 0 0), (5, .hptr 0 16 0 11), (6, .hptr 4 10 0 0)]) (es1 := hpP c s r (newA0 s r.spec)) (fun x => Nat.beq x 3) ⟨frz_refl 5 _, frz_refl 5 _, frz_refl 5 _, frz_refl 5 _, trivial⟩
    ⟨⟨rfl, _, rfl, .inr ⟨rfl, rfl, rfl, fzRows1 ⟨rfl, rfl, rfl, rfl, rfl, rfl, rfl, rfl, rfl, ?_, trivial⟩⟩⟩, ⟨rfl, _, rfl, .inl rfl⟩, ⟨rfl, _, rfl, .inl rfl⟩, ⟨rfl, _, rfl, .inl rfl⟩, trivial⟩) ?_
  · refine ⟨⟨⟨rfl, by simp [newA0]⟩, rfl⟩, _, rfl, rfl, fun i hi => ?_⟩
    refine ⟨_, by rw [List.getElem?_replicate, if_pos (by simpa using hi)], ?_⟩
    have hd : (newA0 s r.spec).tasks.getD i default = default := by
      simp only [newA0, List.getD_eq_getElem?_getD, List.getElem?_replicate]
      split <;> rfl
    dsimp only
    rw [hd]
    exact ⟨rfl, rfl, rfl, rfl, rfl, rfl, rfl, rfl, trivial⟩
  (refine goS ?_ <;> repeat (intro _ <;> refine goS ?_))
  refine loop_st (S := Nat) (fun k => [(0, .hptr 0 16 0 0), (3, .hptr 2 15 0 0), (5, .hptr 0 16 0 11), (6, .hptr 4 10 0 0), (7, I k)])
    (fun _ => ⟨5, hpP c s r (newA0 s r.spec)⟩) (fun k => k ≤ s.allocs.length ∧ posA s.allocs r.spec.id = k + posA (s.allocs.drop k) r.spec.id) (fun k => s.allocs.length - k) 0
    (Wk.cut rfl ⟨⟨rfl, rfl⟩, ⟨rfl, rfl⟩, ⟨rfl, rfl⟩, ⟨rfl, rfl⟩, ⟨rfl, rfl⟩, trivial⟩ ⟨⟨rfl, rfl, row1 rfl, nofun⟩, ⟨rfl, rfl, row1 rfl, nofun⟩, ⟨rfl, rfl, bd_rows rowsL_free, nofun⟩, ⟨rfl, rfl, row1 rfl, nofun⟩, trivial⟩) ⟨Nat.zero_le _, by simp⟩ ?_
  rintro k ⟨hk, hpos⟩
  have hq : (k < s.allocs.length ∧ (s.allocs.getD k default).spec.id < r.spec.id) ∨ (k < s.allocs.length ∧ ¬ (s.allocs.getD k default).spec.id < r.spec.id) ∨ ¬ k < s.allocs.length := by omega
  (refine goS ?_ <;> repeat (intro _ <;> refine goS ?_))
  rcases hq with ⟨q1, q2⟩ | hq2
  · (refine bnS (fun hr h => ?_) (fun hr h => ?_) <;> first | (exfalso; omega) | ((refine goS ?_ <;> repeat (intro _ <;> refine goS ?_))))
    (rw [evN_load_own (row := (Alloc.fv (s.allocs.getD k default)).map FV.up) (y := I (s.allocs.getD k default).spec.id)]; rotate_left 1; exact rfl; exact rfl; exact rfl; exact rowsL_at' q1; exact rfl; exact rfl) <;> (refine goS ?_ <;> repeat (intro _ <;> refine goS ?_))
    (refine bnS (fun hr h => ?_) (fun hr h => ?_) <;> first | (exfalso; omega) | ((refine goS ?_ <;> repeat (intro _ <;> refine goS ?_))))
    exact ⟨k + 1, by omega, ⟨q1, by rw [hpos, posA_drop q1 q2]; omega⟩, Wk.cut rfl ⟨⟨rfl, rfl⟩, ⟨rfl, rfl⟩, ⟨rfl, rfl⟩, ⟨rfl, rfl⟩, ⟨congrArg I (wrapS (by omega)), rfl⟩, trivial⟩ ⟨⟨rfl, rfl, row1 rfl, nofun⟩, ⟨rfl, rfl, row1 rfl, nofun⟩, ⟨rfl, rfl, bd_rows rowsL_free, nofun⟩, ⟨rfl, rfl, row1 rfl, nofun⟩, trivial⟩⟩
  have hkp : posA s.allocs r.spec.id = k := by
    rw [hpos]
    rcases hq2 with ⟨q1, q2⟩ | q1
    · rw [posA_stop q1 q2]; rfl
    · rw [List.drop_of_length_le (by omega)]; rfl
  clear hpos
  rcases hq2 with ⟨q1, q2⟩ | q1
  case' inl =>
    (refine bnS (fun hr h => ?_) (fun hr h => ?_) <;> first | (exfalso; omega) | ((refine goS ?_ <;> repeat (intro _ <;> refine goS ?_))))
    (rw [evN_load_own (row := (Alloc.fv (s.allocs.getD k default)).map FV.up) (y := I (s.allocs.getD k default).spec.id)]; rotate_left 1; exact rfl; exact rfl; exact rfl; exact rowsL_at' q1; exact rfl; exact rfl) <;> (refine goS ?_ <;> repeat (intro _ <;> refine goS ?_))
    (refine bnS (fun hr h => ?_) (fun hr h => ?_) <;> first | (exfalso; omega) | ((refine goS ?_ <;> repeat (intro _ <;> refine goS ?_))))
  case' inr => 
    (refine bnS (fun hr h => ?_) (fun hr h => ?_) <;> first | (exfalso; omega) | ((refine goS ?_ <;> repeat (intro _ <;> refine goS ?_))))
  all_goals
    refine onB_f (ble_no (by show (k : Int).toNat < ((k : Int) - 0).toNat + 1; omega)) ?_ <;> (refine goS ?_ <;> repeat (intro _ <;> refine goS ?_))
    refine And.intro ⟨by simp [rowsL]; omega, by show _ * 128 ≤ _; simp [rowsL]; omega⟩ ?_ <;> (refine goS ?_ <;> repeat (intro _ <;> refine goS ?_))
    (rw [rowsOf_own (X := rowsL Alloc.fv (s.allocs.drop k))]; rotate_left 1; exact rfl; exact rfl; exact rfl; exact (by simp [rowsL]; omega); exact rowsL_part (by simp) (by omega)) <;> (refine goS ?_ <;> repeat (intro _ <;> refine goS ?_))
    refine And.intro ⟨by simp [rowsL]; omega, oneRows_al _, by show _ * 128 ≤ _; simp [rowsL]; omega⟩ ?_
    (refine goS1 ?_ <;> repeat (intro _ <;> refine goS1 ?_))
    have hrows : ((((rowsL Alloc.fv s.allocs).drop (0 + Int.toNat 0)).take (((k : Int) - 0).toNat) ++ [(newA0 s r.spec).fv.map FV.up]) ++ rowsL Alloc.fv (s.allocs.drop k) : List (List AV)) = rowsL Alloc.fv (insA s k (newA0 s r.spec)) := by
      simp [rowsL, insA]
    have hlen : ((k : Int) - 0).toNat + 1 + (rowsL Alloc.fv (s.allocs.drop k)).length = (insA s k (newA0 s r.spec)).length := by simp [rowsL, insA]; omega
    refine SeqW.wk (Wk.cut (fr1 := [(0, .hptr 0 16 0 0), (3, .hptr 2 15 0 0), (5, .hptr 0 16 0 11), (6, .hptr 4 10 0 0), (7, I k), (9, .hptr 5 5 0 0)]) (H1 := ⟨9, (8, some ⟨10, rowsL Alloc.fv (insA s k (newA0 s r.spec)), none⟩) :: (5, some ⟨5, [stV s (alV 8 (insA s k (newA0 s r.spec)).length)], none⟩) :: hpP c s r (newA0 s r.spec)⟩) rfl ⟨⟨rfl, rfl⟩, ⟨rfl, rfl⟩, ⟨rfl, rfl⟩, ⟨rfl, rfl⟩, ⟨rfl, rfl⟩, ⟨rfl, rfl⟩, trivial⟩ ⟨⟨congrArg (fun r => some (E.Blk.mk 10 r none)) hrows, rfl, bd_rows rowsL_free, nofun⟩, ⟨congrArg (fun n => some (E.Blk.mk 5 [stV s (alV 8 n)] none)) hlen, rfl, row1 rfl, nofun⟩, ⟨rfl, rfl, row1 rfl, nofun⟩, ⟨rfl, rfl, row1 rfl, nofun⟩, ⟨rfl, rfl, bd_rows rowsL_free, nofun⟩, ⟨rfl, rfl, row1 rfl, nofun⟩, trivial⟩) ?_
    (refine goS ?_ <;> repeat (intro _ <;> refine goS ?_))
    have hap := apart_p ⟨s.epoch, s.next, s.lives, s.ack, insA s k (newA0 s r.spec)⟩ (by simp [insA]; omega) (fun i hi => (hP _ (by rw [hkp]; exact getD_in (α := Alloc) hi)).1) (fun i hi => (hP _ (by rw [hkp]; exact getD_in (α := Alloc) hi)).2)
    rw [hkp] at hA
    (first | refine ACalls.deep (hap) rfl (.cons (dth_st (s := ⟨s.epoch, s.next, s.lives, s.ack, insA s k (newA0 s r.spec)⟩) (dth_rows rfl rfl)) .nil) ?_ | refine HCall.deep (hap) rfl (.cons (dth_st (s := ⟨s.epoch, s.next, s.lives, s.ack, insA s k (newA0 s r.spec)⟩) (dth_rows rfl rfl)) .nil) ?_) <;> (refine goS ?_ <;> repeat (intro _ <;> refine goS ?_))
    have h3 : ¬ (c.allocs ≤ s.allocs.length ∨ roomB c (r.spec.res :: usedR s.allocs) = false) := by rw [hb]; simp; omega
    by_cases h4 : ∃ y ∈ usedP s.allocs, meetF r.spec.ports y ≠ []
    · have hpd : pdisB (usedP (insA s k (newA0 s r.spec))) = false := by
        cases hq : pdisB (usedP (insA s k (newA0 s r.spec)))
        · rfl
        · exact absurd h4 (hA.1 hq)
      rw [hpd]
      (refine goS ?_ <;> repeat (intro _ <;> refine goS ?_))
      rw [place_e4 h1 h2 h3 h4]
      exact ret_met (s' := s) rfl nofun rfl (frz_rows rfl rfl rfl) rfl rfl
    have hpd : pdisB (usedP (insA s k (newA0 s r.spec))) = true := hA.2 h4
    rw [hpd]
    (refine goS ?_ <;> repeat (intro _ <;> refine goS ?_))
    by_cases h5 : s.lives = mT
    · unfold mT at h5
      (refine bnS (fun hr h => ?_) (fun hr h => ?_) <;> first | (exfalso; omega) | ((refine goS ?_ <;> repeat (intro _ <;> refine goS ?_))))
      rw [place_e5 h1 h2 h3 h4 h5]
      exact ret_met (s' := s) rfl nofun rfl (frz_rows rfl rfl rfl) rfl rfl
    unfold mT at h5
    (refine bnS (fun hr h => ?_) (fun hr h => ?_) <;> first | (exfalso; omega) | ((refine goS ?_ <;> repeat (intro _ <;> refine goS ?_))))
    have hl8 : s.allocs.length ≤ 7 := by omega
    refine loop_st (S := Nat) (fun _ => [(0, .hptr 0 16 0 0), (3, .hptr 2 15 0 0), (5, .hptr 0 16 0 11), (6, .hptr 4 10 0 0), (7, I k), (9, .hptr 5 5 0 0)]) (fun n => hpQ c s r k n) (fun n => slotI s.allocs n) (fun n => 9 - n) 0
      (Wk.cut rfl ⟨⟨rfl, rfl⟩, ⟨rfl, rfl⟩, ⟨rfl, rfl⟩, ⟨rfl, rfl⟩, ⟨rfl, rfl⟩, ⟨rfl, rfl⟩, trivial⟩ ⟨⟨rfl, rfl, bd_rows rowsL_free, nofun⟩, ⟨rfl, rfl, row1 rfl, nofun⟩, ⟨rfl, rfl, row1 rfl, nofun⟩, ⟨rfl, rfl, row1 rfl, nofun⟩, ⟨rfl, rfl, bd_rows rowsL_free, nofun⟩, ⟨rfl, rfl, row1 rfl, nofun⟩, trivial⟩) (slotI_0 _) ?_
    intro n hsl
    have hn7 := slotI_len hsl
    (refine goS ?_ <;> repeat (intro _ <;> refine goS ?_))
    refine ACalls.ev Tryz.f161 mx Tryz.func161 (by kernel_rfl) rfl ?_ <;> (refine goS ?_ <;> repeat (intro _ <;> refine goS ?_))
    refine ACalls.ev Tryz.f50 mx Tryz.func50 (by kernel_rfl) rfl ?_ <;> (refine goS ?_ <;> repeat (intro _ <;> refine goS ?_))
    refine loop_st (S := Nat) (fun j => [(0, alV 1 s.allocs.length), (1, .fn (.func 162) [] [.hptr 4 10 0 0]), (6, alV 1 s.allocs.length), (7, I s.allocs.length), (8, I j)])
      (fun _ => hpQ c s r k n) (fun j => j ≤ s.allocs.length ∧ ∀ m, m < j → (s.allocs.getD m default).slot ≠ (n : Int)) (fun j => s.allocs.length - j) 0
      (Wk.cut rfl ⟨⟨rfl, rfl⟩, ⟨rfl, rfl⟩, ⟨rfl, rfl⟩, ⟨rfl, rfl⟩, ⟨rfl, rfl⟩, trivial⟩ ⟨⟨rfl, rfl, bd_rows rowsL_free, nofun⟩, ⟨rfl, rfl, row1 rfl, nofun⟩, ⟨rfl, rfl, row1 rfl, nofun⟩, ⟨rfl, rfl, row1 rfl, nofun⟩, ⟨rfl, rfl, bd_rows rowsL_free, nofun⟩, ⟨rfl, rfl, row1 rfl, nofun⟩, trivial⟩) ⟨Nat.zero_le _, fun m h => absurd h (Nat.not_lt_zero _)⟩ ?_
    rintro j ⟨hj, hno⟩
    (refine goS ?_ <;> repeat (intro _ <;> refine goS ?_))
    (refine bnS (fun hr h => ?_) (fun hr h => ?_) <;> first | (exact False.elim h) | ((refine goS ?_ <;> repeat (intro _ <;> refine goS ?_))))
    · have hj2 : j < s.allocs.length := h
      (rw [evN_load_own (row := (Alloc.fv (s.allocs.getD j default)).map FV.up) (y := (s.allocs.getD j default).av)]; rotate_left 1; exact rfl; exact rfl; exact rfl; exact rowsL_at' hj2; exact rfl; exact rfl) <;> (refine goS ?_ <;> repeat (intro _ <;> refine goS ?_))
      refine ACalls.ev Tryz.f162 mx Tryz.func162 (by kernel_rfl) rfl ?_ <;> (refine goS ?_ <;> repeat (intro _ <;> refine goS ?_))
      refine ret_now _ ?_ <;> (refine goS ?_ <;> repeat (intro _ <;> refine goS ?_))
      (refine bnS (fun hr h => ?_) (fun hr h => ?_) <;> first | (exact False.elim h) | ((refine goS ?_ <;> repeat (intro _ <;> refine goS ?_))))
      · have htak : ∃ a ∈ s.allocs, a.slot = (n : Int) := ⟨_, getD_in hj2, h⟩
        refine ret_now _ ?_ <;> (refine goS ?_ <;> repeat (intro _ <;> refine goS ?_))
        refine ret_now _ ?_ <;> (refine goS ?_ <;> repeat (intro _ <;> refine goS ?_))
        exact ⟨n + 1, by omega, slotI_s (by omega) hsl htak, Wk.cut rfl ⟨⟨rfl, rfl⟩, ⟨rfl, rfl⟩, ⟨rfl, rfl⟩, ⟨rfl, rfl⟩, ⟨rfl, rfl⟩, ⟨rfl, rfl⟩, trivial⟩ ⟨⟨rfl, rfl, bd_rows rowsL_free, nofun⟩, ⟨rfl, rfl, row1 rfl, nofun⟩, ⟨congrArg (fun z => some (E.Blk.mk 10 [(newAt s r.spec z).fv.map FV.up] none)) (wrapS (by omega)), rfl, row1 rfl, nofun⟩, ⟨rfl, rfl, row1 rfl, nofun⟩, ⟨rfl, rfl, bd_rows rowsL_free, nofun⟩, ⟨rfl, rfl, row1 rfl, nofun⟩, trivial⟩⟩
      · exact ⟨j + 1, by omega, ⟨hj2, fun m hm => by rcases Nat.lt_succ_iff_lt_or_eq.1 hm with e | e; exact hno m e; rw [e]; exact h⟩, Wk.cut rfl ⟨⟨rfl, rfl⟩, ⟨rfl, rfl⟩, ⟨rfl, rfl⟩, ⟨rfl, rfl⟩, ⟨congrArg I (wrapS (by omega)), rfl⟩, trivial⟩ ⟨⟨rfl, rfl, bd_rows rowsL_free, nofun⟩, ⟨rfl, rfl, row1 rfl, nofun⟩, ⟨rfl, rfl, row1 rfl, nofun⟩, ⟨rfl, rfl, row1 rfl, nofun⟩, ⟨rfl, rfl, bd_rows rowsL_free, nofun⟩, ⟨rfl, rfl, row1 rfl, nofun⟩, trivial⟩⟩
    · have hfree : ¬ ∃ a ∈ s.allocs, a.slot = (n : Int) := by
        rintro ⟨a, ha, e⟩
        obtain ⟨m, hm, e2⟩ := List.getElem_of_mem ha
        exact hno m (by omega) (by rw [List.getD_eq_getElem?_getD, List.getElem?_eq_getElem hm, Option.getD_some, e2]; exact e)
      have hslot := slotI_e (by omega) hsl hfree
      have hlen1 : ∀ a, (insA s k a).length = s.allocs.length + 1 := fun a => by simp [insA]; omega
      have hat : (rowsL Alloc.fv (insA s k (newA0 s r.spec)))[0 + ((k : Int)).toNat]? = some ((newA0 s r.spec).fv.map FV.up) := by
        rw [rowsL_at' (by rw [hlen1]; omega)]
        simp [insA, List.getD_eq_getElem?_getD, List.getElem?_append, show min k s.allocs.length = k by omega]
      have hset : (rowsL Alloc.fv (insA s k (newA0 s r.spec))).set (0 + ((k : Int)).toNat) ((newAt s r.spec n).fv.map FV.up) = rowsL Alloc.fv (insA s k (newAt s r.spec n)) := by
        rw [Nat.zero_add, toNat_nat]
        simp [rowsL, insA, List.set_append, show min k s.allocs.length = k by omega]
      refine ret_now _ ?_ <;> (refine goS ?_ <;> repeat (intro _ <;> refine goS ?_))
      refine ret_now _ ?_ <;> (refine goS ?_ <;> repeat (intro _ <;> refine goS ?_))
      (rw [evStore_eq (row := (newA0 s r.spec).fv.map FV.up) (rows' := rowsL Alloc.fv (insA s k (newAt s r.spec n)))]; rotate_left 1; exact rfl; exact rfl; exact rfl; exact hat; exact rfl; exact rfl; exact hset) <;> (refine goS ?_ <;> repeat (intro _ <;> refine goS ?_))
      rw [place_e6 h1 h2 h3 h4 h5, hkp, show newA s r.spec = newAt s r.spec n by unfold newA newAt; rw [hslot]]
      have hlw : IntKind.i64.wrap (s.lives + 1) = s.lives + 1 := wrap_id (by omega) (by omega)
      exact ret_met (X := alV 8 (insA s k (newA0 s r.spec)).length) (s' := ⟨r.epoch, s.next, IntKind.i64.wrap (s.lives + 1), s.ack, insA s k (newAt s r.spec n)⟩) rfl (fun _ => congrArg (fun x => State.mk r.epoch s.next x s.ack (insA s k (newAt s r.spec n))) hlw) rfl (frz_rows' ((hlen1 (newA0 s r.spec)).trans (hlen1 _).symm) rfl rfl) rfl rfl
abbrev tabL : List (Int × AV) := [(1, .fn (.func 90) [] []), (2, .fn (.func 91) [] []), (3, .fn (.func 92) [] []), (4, .fn (.func 93) [] []), (5, .fn (.func 94) [] []), (6, .fn (.func 94) [] []), (7, .fn (.func 94) [] []), (8, .fn (.func 94) [] []), (9, .fn (.func 95) [] [])]
theorem table_n : E.NPure Tryz.prog 54 [] (.mp 0) 1 [(0, some ⟨0, [], some (.tab .u8 tabL)⟩)] := by
  refine ⟨?_, rfl, rfl⟩
  refine ACalls.ev Tryz.f54 mx Tryz.func54 (by kernel_rfl) rfl ?_ <;> (refine goS ?_ <;> repeat (intro _ <;> refine goS ?_))
  exact ⟨_, _, Wk.cut (fr1 := [(0, .mp 0)]) (H1 := ⟨1, [(0, some ⟨0, [], some (.tab .u8 tabL)⟩)]⟩) rfl ⟨⟨rfl, rfl⟩, trivial⟩ ⟨⟨rfl, rfl, nofun, fun k l e q hq => by cases e; exact List.all_eq_true.1 (show (tabL.all fun q => q.2.bd 1) = true from rfl) q hq⟩, trivial⟩, rfl, rfl⟩
theorem stopN_m (c : Config) (s : State) (r : Rec) (hi : findG s.allocs r.id 0 < 0) : MetO 91 c s r (doStopS s r) := by
  have hF := find_p s r.id
  refine ACalls.ev Tryz.f91 mx Tryz.func91 (by kernel_rfl) rfl ?_ <;> (refine goS ?_ <;> repeat (intro _ <;> refine goS ?_))
  refine ACalls.ev Tryz.f163 mx Tryz.func163 (by kernel_rfl) rfl ?_ <;> (refine goS ?_ <;> repeat (intro _ <;> refine goS ?_))
  by_cases h1 : r.epoch < s.epoch
  · (refine bnS (fun hr h => ?_) (fun hr h => ?_) <;> first | (exfalso; omega) | ((refine goS ?_ <;> repeat (intro _ <;> refine goS ?_))))
    refine ret_now _ ?_ <;> (refine goS ?_ <;> repeat (intro _ <;> refine goS ?_))
    rw [show doStopS s r = (13, zS) from if_pos h1]
    exact ret_met (s' := s) rfl nofun rfl (frz_rows rfl rfl rfl) rfl rfl
  · (refine bnS (fun hr h => ?_) (fun hr h => ?_) <;> first | (exfalso; omega) | ((refine goS ?_ <;> repeat (intro _ <;> refine goS ?_))))
    (first | refine ACalls.deep (hF) rfl (.cons (dth_st (dth_rows rfl rfl)) (.cons (.inl ⟨rfl, rfl⟩) .nil)) ?_ | refine HCall.deep (hF) rfl (.cons (dth_st (dth_rows rfl rfl)) (.cons (.inl ⟨rfl, rfl⟩) .nil)) ?_) <;> (refine goS ?_ <;> repeat (intro _ <;> refine goS ?_))
    (refine bnS (fun hr h => ?_) (fun hr h => ?_) <;> first | (exfalso; omega) | ((refine goS ?_ <;> repeat (intro _ <;> refine goS ?_))))
    refine ret_now _ ?_ <;> (refine goS ?_ <;> repeat (intro _ <;> refine goS ?_))
    rw [show doStopS s r = (6, zS) by unfold doStopS; rw [if_neg h1, if_pos hi]]
    exact ret_met (s' := s) rfl nofun rfl (frz_rows rfl rfl rfl) rfl rfl
theorem intentN_m (c : Config) (s : State) (r : Rec) (hi : findG s.allocs r.id 0 < 0) : MetO 93 c s r (6, zS) := by
  have hF := find_p s r.id
  refine ACalls.ev Tryz.f93 mx Tryz.func93 (by kernel_rfl) rfl ?_ <;> (refine goS ?_ <;> repeat (intro _ <;> refine goS ?_))
  refine ACalls.ev Tryz.f165 mx Tryz.func165 (by kernel_rfl) rfl ?_ <;> (refine goS ?_ <;> repeat (intro _ <;> refine goS ?_))
  (first | refine ACalls.deep (hF) rfl (.cons (dth_st (dth_rows rfl rfl)) (.cons (.inl ⟨rfl, rfl⟩) .nil)) ?_ | refine HCall.deep (hF) rfl (.cons (dth_st (dth_rows rfl rfl)) (.cons (.inl ⟨rfl, rfl⟩) .nil)) ?_) <;> (refine goS ?_ <;> repeat (intro _ <;> refine goS ?_))
  (refine bnS (fun hr h => ?_) (fun hr h => ?_) <;> first | (exfalso; omega) | ((refine goS ?_ <;> repeat (intro _ <;> refine goS ?_))))
  refine ret_now _ ?_ <;> (refine goS ?_ <;> repeat (intro _ <;> refine goS ?_))
  exact ret_met (s' := s) rfl nofun rfl (frz_rows rfl rfl rfl) rfl rfl
theorem simpleN_m (c : Config) (s : State) (r : Rec) (hi : findG s.allocs r.id 0 < 0) : MetO 94 c s r (6, zS) := by
  have hF := find_p s r.id
  refine ACalls.ev Tryz.f94 mx Tryz.func94 (by kernel_rfl) rfl ?_ <;> (refine goS ?_ <;> repeat (intro _ <;> refine goS ?_))
  refine ACalls.ev Tryz.f165 mx Tryz.func165 (by kernel_rfl) rfl ?_ <;> (refine goS ?_ <;> repeat (intro _ <;> refine goS ?_))
  (first | refine ACalls.deep (hF) rfl (.cons (dth_st (dth_rows rfl rfl)) (.cons (.inl ⟨rfl, rfl⟩) .nil)) ?_ | refine HCall.deep (hF) rfl (.cons (dth_st (dth_rows rfl rfl)) (.cons (.inl ⟨rfl, rfl⟩) .nil)) ?_) <;> (refine goS ?_ <;> repeat (intro _ <;> refine goS ?_))
  (refine bnS (fun hr h => ?_) (fun hr h => ?_) <;> first | (exfalso; omega) | ((refine goS ?_ <;> repeat (intro _ <;> refine goS ?_))))
  refine ret_now _ ?_ <;> (refine goS ?_ <;> repeat (intro _ <;> refine goS ?_))
  exact ret_met (s' := s) rfl nofun rfl (frz_rows rfl rfl rfl) rfl rfl
theorem frz_zS {z : Nat → Bool} {H : Hp} {x : AV} {n : Int} (h : x = .tup [.agg [I 0, I 0, I 0, I 0, .val (.slice none 0 0)], I n]) : Frz z H 5 x (resS (n, zS)) := by
  subst h
  exact ⟨⟨rfl, rfl, rfl, rfl, rfl, trivial⟩, rfl, trivial⟩
set_option maxHeartbeats 4000000 in
theorem apply_e1 (c : Config) (s : State) (r : Rec) (hf : s.few) (hw : s.wfS) (hE : stE c s ≠ 0) : Pure Tryz.prog 17 [c.av, s.av, r.av] (resS (stE c s, zS)) := by
  have hS := stCheck_p c s hf hw
  generalize stE c s = e at hE hS ⊢
  refine Pure.ev Tryz.f17 mx Tryz.func17 (by kernel_rfl) rfl rfl rfl ?_ <;> (refine goS ?_ <;> repeat (intro _ <;> refine goS ?_))
  (first | refine Pure.call (hS) ?_ | refine HCall.pure (hS) ?_) <;> (refine goS ?_ <;> repeat (intro _ <;> refine goS ?_))
  (refine bnS (fun hr h => ?_) (fun hr h => ?_) <;> first | (exfalso; omega) | ((refine goS ?_ <;> repeat (intro _ <;> refine goS ?_))))
  exact ret_frz (frz_zS rfl) rfl
set_option maxHeartbeats 4000000 in
theorem apply_e2 (c : Config) (s : State) (r : Rec) (hf : s.few) (hw : s.wfS) (hE : stE c s = 0) (h0 : 0 ≤ r.kind) (hR : recE r ≠ 0) : Pure Tryz.prog 17 [c.av, s.av, r.av] (resS (recE r, zS)) := by
  have hS := stCheck_p c s hf hw
  have hC := recCheck_p r h0
  rw [hE] at hS
  generalize recE r = e at hR hC ⊢
  refine Pure.ev Tryz.f17 mx Tryz.func17 (by kernel_rfl) rfl rfl rfl ?_ <;> (refine goS ?_ <;> repeat (intro _ <;> refine goS ?_))
  (first | refine Pure.call (hS) ?_ | refine HCall.pure (hS) ?_) <;> (refine goS ?_ <;> repeat (intro _ <;> refine goS ?_))
  (first | refine Pure.call (hC) ?_ | refine HCall.pure (hC) ?_) <;> (refine goS ?_ <;> repeat (intro _ <;> refine goS ?_))
  (refine bnS (fun hr h => ?_) (fun hr h => ?_) <;> first | (exfalso; omega) | ((refine goS ?_ <;> repeat (intro _ <;> refine goS ?_))))
  exact ret_frz (frz_zS rfl) rfl
theorem copyO_n (s : State) (hf : s.few) : E.NPure Tryz.prog 53 [s.av] (.agg (stV s (alV 0 s.allocs.length))) 1 [(0, some ⟨10, rowsL Alloc.fv s.allocs, none⟩)] := by
  refine ⟨(copy_n s s.allocs.length hf).mono fun y H h => ?_, rfl, bd_one rfl rfl rowsL_free⟩
  rw [if_neg (Nat.lt_irrefl _)] at h
  exact h
set_option maxHeartbeats 4000000 in
theorem apply_O (c : Config) (s : State) (r : Rec) (z : Int × State) (m : FuncId) (hf : s.few) (hw : s.wfS) (hE : stE c s = 0) (hR : recE r = 0)
    (hk : (r.kind = 1 ∧ m = 90) ∨ (r.kind = 2 ∧ m = 91) ∨ (r.kind = 3 ∧ m = 92) ∨ (r.kind = 4 ∧ m = 93) ∨ (r.kind = 5 ∧ m = 94) ∨ (r.kind = 6 ∧ m = 94) ∨ (r.kind = 7 ∧ m = 94) ∨ (r.kind = 8 ∧ m = 94) ∨ (r.kind = 9 ∧ m = 95))
    (hm : MetO m c s r z) (hz : z.1 ≠ 0 → z.2 = zS) : Pure Tryz.prog 17 [c.av, s.av, r.av] (resS z) := by
  have hS := stCheck_p c s hf hw
  have hC := recCheck_p r (by omega)
  rw [hE] at hS
  rw [hR] at hC
  clear hE hR
  obtain ⟨e, z2⟩ := z
  obtain ⟨k, ep, sp, id, ta, ti, wa, pi, no, co⟩ := r
  dsimp only at hk
  rcases hk with ⟨rfl, rfl⟩ | ⟨rfl, rfl⟩ | ⟨rfl, rfl⟩ | ⟨rfl, rfl⟩ | ⟨rfl, rfl⟩ | ⟨rfl, rfl⟩ | ⟨rfl, rfl⟩ | ⟨rfl, rfl⟩ | ⟨rfl, rfl⟩
  all_goals
    refine Pure.ev Tryz.f17 mx Tryz.func17 (by kernel_rfl) rfl rfl rfl ?_ <;> (refine goS ?_ <;> repeat (intro _ <;> refine goS ?_))
    (first | refine Pure.call (hS) ?_ | refine HCall.pure (hS) ?_) <;> (refine goS ?_ <;> repeat (intro _ <;> refine goS ?_))
    (first | refine Pure.call (hC) ?_ | refine HCall.pure (hC) ?_) <;> (refine goS ?_ <;> repeat (intro _ <;> refine goS ?_))
    (first | refine NPure.acalls (copyO_n s hf) ?_ | refine HCall.neu (copyO_n s hf) ?_) <;> (refine goS1 ?_ <;> repeat (intro _ <;> refine goS1 ?_))
    refine SeqW.wk (Wk.cut (fr1 := [(5, .hptr 2 15 0 0), (6, .hptr 3 5 0 0), (10, .hptr 5 16 0 0)]) (H1 := ⟨6, [(5, some ⟨16, [ndV c s (alV 4 s.allocs.length)], none⟩), (4, some ⟨10, rowsL Alloc.fv s.allocs, none⟩), (3, some ⟨5, [[I 0, I 0, I 0, I 0, nilV0]], none⟩), (2, some ⟨15, [(Rec.fv _).map FV.up], none⟩)]⟩) rfl ⟨⟨rfl, rfl⟩, ⟨rfl, rfl⟩, ⟨rfl, rfl⟩, trivial⟩ ⟨⟨rfl, rfl, row1 rfl, nofun⟩, ⟨congrArg (fun r => some (E.Blk.mk 10 r none)) (rowsL_shA _ _), rfl, bd_rows rowsL_free, nofun⟩, ⟨rfl, rfl, row1 rfl, nofun⟩, ⟨rfl, rfl, row1 rfl, nofun⟩, trivial⟩) ?_
    (refine goS ?_ <;> repeat (intro _ <;> refine goS ?_))
    (first | refine NPure.acalls (table_n) ?_ | refine HCall.neu (table_n) ?_) <;> (refine goS ?_ <;> repeat (intro _ <;> refine goS ?_))
    refine ACalls.frame [5, 4] hm rfl rfl (by simp) rfl rfl ⟨⟨rfl, _, rfl, .inl ⟨rfl, rowsL_free⟩, nofun⟩, ⟨rfl, _, rfl, .inr ⟨rfl, row1 rfl⟩, nofun⟩, trivial⟩ ?_
    rintro x H' hle ⟨s', rfl, hs', rfl⟩
    refine ⟨rfl, [(5, some ⟨16, [ndV c s' (slA s'.allocs)], none⟩)], ⟨⟨rfl, rfl, .inr ⟨rfl, row1 rfl⟩, .inl ⟨rfl, nofun⟩⟩, trivial⟩, ?_⟩
    (refine goS ?_ <;> repeat (intro _ <;> refine goS ?_))
    by_cases he : e = 0
    · subst he
      have hs2 := hs' rfl
      subst hs2
      (refine goS ?_ <;> repeat (intro _ <;> refine goS ?_))
      exact ret_now _ rfl
    · (refine bnS (fun hr h => ?_) (fun hr h => ?_) <;> first | (exfalso; omega) | ((refine goS ?_ <;> repeat (intro _ <;> refine goS ?_))))
      have hz2 := hz he
      dsimp only at hz2
      subst hz2
      exact ret_frz (frz_zS rfl) rfl
theorem rowsAt_shA (N : Nat) (s : State) (i id : Nat) : ((rowsAt s i id).map fun r => r.map (shA N)) = rowsAt s i (Nat.add N id) := by
  unfold rowsAt
  rw [List.map_set, rowsL_shA]
  rfl
theorem copyN_n (s : State) (hf : s.few) {i : Nat} (hi : i < s.allocs.length) : E.NPure Tryz.prog 53 [s.av] (.agg (stV s (alV 0 s.allocs.length))) 2 [(1, some ⟨8, rowsL Task.fv (s.allocs.getD i default).tasks, none⟩), (0, some ⟨10, rowsAt s i 1, none⟩)] := by
  refine ⟨(copy_n s i hf).mono fun y H h => ?_, rfl, ?_⟩
  · rw [if_pos hi] at h
    exact h
  · have h1 : ((rowsL Task.fv (s.allocs.getD i default).tasks).all fun r => r.all (bdN 2 5)) = true := List.all_eq_true.2 fun r hr => bd_rows rowsL_free r hr
    have h2 : ((rowsAt s i 1).all fun r => r.all (bdN 2 5)) = true := List.all_eq_true.2 fun r hr => bd_set (bd_rows rowsL_free) rfl r hr
    simp only [bdE, h1, h2, bdM]
    rfl
set_option maxHeartbeats 4000000 in
theorem apply_N (c : Config) (s : State) (i : Nat) (hil : i < s.allocs.length) (r : Rec) (z : Int × State) (m : FuncId) (hf : s.few) (hw : s.wfS) (hE : stE c s = 0) (hR : recE r = 0)
    (hk : (r.kind = 2 ∧ m = 91) ∨ (r.kind = 4 ∧ m = 93) ∨ (r.kind = 5 ∧ m = 94) ∨ (r.kind = 6 ∧ m = 94) ∨ (r.kind = 7 ∧ m = 94) ∨ (r.kind = 8 ∧ m = 94))
    (hm : MetN m c s i r z) (hz : z.1 ≠ 0 → z.2 = zS) : Pure Tryz.prog 17 [c.av, s.av, r.av] (resS z) := by
  have hS := stCheck_p c s hf hw
  have hC := recCheck_p r (by omega)
  rw [hE] at hS
  rw [hR] at hC
  clear hE hR
  obtain ⟨e, z2⟩ := z
  obtain ⟨k, ep, sp, id, ta, ti, wa, pi, no, co⟩ := r
  dsimp only at hk
  rcases hk with ⟨rfl, rfl⟩ | ⟨rfl, rfl⟩ | ⟨rfl, rfl⟩ | ⟨rfl, rfl⟩ | ⟨rfl, rfl⟩ | ⟨rfl, rfl⟩
  all_goals
    refine Pure.ev Tryz.f17 mx Tryz.func17 (by kernel_rfl) rfl rfl rfl ?_ <;> (refine goS ?_ <;> repeat (intro _ <;> refine goS ?_))
    (first | refine Pure.call (hS) ?_ | refine HCall.pure (hS) ?_) <;> (refine goS ?_ <;> repeat (intro _ <;> refine goS ?_))
    (first | refine Pure.call (hC) ?_ | refine HCall.pure (hC) ?_) <;> (refine goS ?_ <;> repeat (intro _ <;> refine goS ?_))
    (first | refine NPure.acalls (copyN_n s hf hil) ?_ | refine HCall.neu (copyN_n s hf hil) ?_) <;> (refine goS1 ?_ <;> repeat (intro _ <;> refine goS1 ?_))
    refine SeqW.wk (Wk.cut (fr1 := [(5, .hptr 2 15 0 0), (6, .hptr 3 5 0 0), (10, .hptr 6 16 0 0)]) (H1 := ⟨7, [(6, some ⟨16, [ndV c s (alV 4 s.allocs.length)], none⟩), (5, some ⟨8, rowsL Task.fv (s.allocs.getD i default).tasks, none⟩), (4, some ⟨10, rowsAt s i 5, none⟩), (3, some ⟨5, [[I 0, I 0, I 0, I 0, nilV0]], none⟩), (2, some ⟨15, [(Rec.fv _).map FV.up], none⟩)]⟩) rfl ⟨⟨rfl, rfl⟩, ⟨rfl, rfl⟩, ⟨rfl, rfl⟩, trivial⟩ ⟨⟨rfl, rfl, row1 rfl, nofun⟩, ⟨congrArg (fun r => some (E.Blk.mk 8 r none)) (rowsL_shA _ _), rfl, bd_rows rowsL_free, nofun⟩, ⟨congrArg (fun r => some (E.Blk.mk 10 r none)) (rowsAt_shA 4 s i 1), rfl, bd_set (bd_rows rowsL_free) rfl, nofun⟩, ⟨rfl, rfl, row1 rfl, nofun⟩, ⟨rfl, rfl, row1 rfl, nofun⟩, trivial⟩) ?_
    (refine goS ?_ <;> repeat (intro _ <;> refine goS ?_))
    (first | refine NPure.acalls (table_n) ?_ | refine HCall.neu (table_n) ?_) <;> (refine goS ?_ <;> repeat (intro _ <;> refine goS ?_))
    refine ACalls.frame [6, 4, 5] hm rfl rfl (by simp) rfl rfl ⟨⟨rfl, _, rfl, .inl ⟨rfl, rowsL_free⟩, nofun⟩, ⟨rfl, _, rfl, .inr ⟨(rowsAt_ren (ρ := lnk [6, 4, 5]) s i 2).symm, bd_set (bd_rows rowsL_free) rfl⟩, nofun⟩, ⟨rfl, _, rfl, .inr ⟨rfl, row1 rfl⟩, nofun⟩, trivial⟩ ?_
    rintro x H' hle ⟨s', rfl, hs', rfl⟩
    refine ⟨rfl, [(6, some ⟨16, [ndV c s' (slA s'.allocs)], none⟩)], ⟨⟨rfl, rfl, .inr ⟨rfl, row1 rfl⟩, .inl ⟨rfl, nofun⟩⟩, trivial⟩, ?_⟩
    (refine goS ?_ <;> repeat (intro _ <;> refine goS ?_))
    by_cases he : e = 0
    · subst he
      have hs2 := hs' rfl
      subst hs2
      (refine goS ?_ <;> repeat (intro _ <;> refine goS ?_))
      exact ret_now _ rfl
    · (refine bnS (fun hr h => ?_) (fun hr h => ?_) <;> first | (exfalso; omega) | ((refine goS ?_ <;> repeat (intro _ <;> refine goS ?_))))
      have hz2 := hz he
      dsimp only at hz2
      subst hz2
      exact ret_frz (frz_zS rfl) rfl
theorem stE_0 {c : Config} {s : State} (h : stE c s = 0) : c.ok ∧ stOk c s := by
  unfold stE at h
  by_cases h1 : c.ok
  · rw [if_neg (not_not_intro h1)] at h
    by_cases h2 : stOk c s
    · exact ⟨h1, h2⟩
    · rw [if_neg h2] at h; omega
  · rw [if_pos h1] at h; omega
theorem checkF_len {l : List Int} (h : checkF l = 0) : l.length ≤ 8 := by
  unfold checkF at h
  by_cases c : 8 < l.length
  · rw [if_pos c] at h; omega
  · omega
theorem specE_0 {x : Spec} (h : specE x = 0) : checkF x.ports = 0 ∧ 1 ≤ x.tasks.length ∧ x.tasks.length ≤ 4 := by
  unfold specE at h
  split at h
  · omega
  split at h
  · omega
  split at h
  · omega
  split at h
  · omega
  split at h
  · omega
  rename_i h3 h4 h5
  exact ⟨by omega, by omega, by omega⟩
theorem recE_0 {r : Rec} (h : recE r = 0) : (1 ≤ r.kind ∧ r.kind ≤ 9) ∧ r.rng ∧ (r.kind = 1 → specE r.spec = 0) := by
  unfold recE at h
  split at h
  · omega
  split at h
  · omega
  rename_i h1 h2
  refine ⟨?_, Classical.not_not.1 h2, fun e => ?_⟩
  · exact Classical.not_not.1 fun e => h1 (.inl e)
  · rwa [if_pos e] at h
theorem pdis_pw {l : List (List Int)} : pdis l ↔ l.Pairwise fun a b => meetF b a = [] := by
  rw [List.pairwise_iff_getElem]
  unfold pdis
  constructor
  · intro h i j hi hj hij
    have := h j i hij hj
    simpa [List.getD_eq_getElem?_getD, hi, hj] using this
  · intro h i j hij hi
    have := h j i (by omega) hi hij
    simpa [List.getD_eq_getElem?_getD, hi, show j < l.length by omega] using this
theorem meet_comm {a b : List Int} : meetF a b = [] ↔ meetF b a = [] := by
  rw [meet_nil, meet_nil]
  exact ⟨fun h x h1 h2 => h x h2 h1, fun h x h1 h2 => h x h2 h1⟩
theorem usedP_app (l m : List Alloc) : usedP (l ++ m) = usedP l ++ usedP m := by simp [usedP, live]
open Classical in
theorem newA0_live {s : State} {x : Spec} (h : 1 ≤ x.tasks.length) : overB (newA0 s x) = false := by
  unfold overB
  rw [decide_eq_false_iff_not]
  intro hc
  have := hc 0 (by show 0 < (List.replicate x.tasks.length default).length; rw [List.length_replicate]; omega)
  rw [show (newA0 s x).tasks.getD 0 default = default by
    simp only [newA0, List.getD_eq_getElem?_getD, List.getElem?_replicate]
    split <;> rfl] at this
  exact absurd this (by decide)
theorem usedP_ins {s : State} {x : Spec} {k : Nat} (h : 1 ≤ x.tasks.length) : usedP (insA s k (newA0 s x)) = usedP (s.allocs.take k) ++ x.ports :: usedP (s.allocs.drop k) := by
  unfold insA
  rw [usedP_app]
  congr 1
  simp [usedP, live, newA0_live h]
  rfl
open Classical in
theorem pdis_ins {s : State} {x : Spec} (h : 1 ≤ x.tasks.length) (hd : pdisB (usedP s.allocs) = true) (k : Nat) : pdisB (usedP (insA s k (newA0 s x))) = true ↔ ¬ ∃ y ∈ usedP s.allocs, meetF x.ports y ≠ [] := by
  have hs : usedP s.allocs = usedP (s.allocs.take k) ++ usedP (s.allocs.drop k) := by rw [← usedP_app, List.take_append_drop]
  unfold pdisB at hd ⊢
  rw [decide_eq_true_iff] at hd ⊢
  rw [usedP_ins h]
  rw [hs] at hd ⊢
  rw [pdis_pw] at hd ⊢
  rw [(List.perm_middle (l₁ := usedP (s.allocs.take k)) (l₂ := usedP (s.allocs.drop k)) (a := x.ports)).pairwise_iff (fun h => meet_comm.1 h), List.pairwise_cons]
  constructor
  · rintro ⟨h1, _⟩ ⟨y, hy, hn⟩
    exact hn (meet_comm.1 (h1 y hy))
  · intro hn
    exact ⟨fun y hy => meet_comm.1 (Classical.not_not.1 fun e => hn ⟨y, hy, e⟩), hd⟩
theorem place_z (c : Config) (s : State) (r : Rec) : (doPlace c s r).1 ≠ 0 → (doPlace c s r).2 = zS := by
  unfold doPlace
  repeat' split
  all_goals simp
theorem stop_z (s : State) (r : Rec) : (doStopS s r).1 ≠ 0 → (doStopS s r).2 = zS := by
  unfold doStopS
  repeat' split
  all_goals simp
theorem forget_z (s : State) (r : Rec) : (doForget s r).1 ≠ 0 → (doForget s r).2 = zS := by
  unfold doForget
  repeat' split
  all_goals simp
theorem ack_z (s : State) (r : Rec) : (doAck s r).1 ≠ 0 → (doAck s r).2 = zS := by
  unfold doAck
  repeat' split
  all_goals simp
theorem turn_z (s : State) (r : Rec) : (doTurn s r).1 ≠ 0 → (doTurn s r).2 = zS := by
  unfold doTurn
  dsimp only
  repeat' split
  all_goals simp
theorem stop_i {s : State} {i : Nat} {r : Rec} (hi : findG s.allocs r.id 0 = i) : doStopS s r = doStopI s i r := by
  unfold doStopS doStopI
  rw [hi, if_neg (show ¬ ((i : Int) < 0) by omega), toNat_nat]
theorem turn_n {s : State} {r : Rec} (hi : findG s.allocs r.id 0 < 0) : doTurn s r = (6, zS) := if_pos hi
theorem apply_p (c : Config) (s : State) (r : Rec) (hf : s.few) (hw : s.wfS) (h0 : 0 ≤ r.kind) : Pure Tryz.prog 17 [c.av, s.av, r.av] (resS (applyF c s r)) := by
  by_cases hE : stE c s = 0
  case neg =>
    rw [show applyF c s r = (stE c s, zS) from if_pos hE]
    exact apply_e1 c s r hf hw hE
  by_cases hR : recE r = 0
  case neg =>
    rw [show applyF c s r = (recE r, zS) by unfold applyF; rw [if_neg (not_not_intro hE), if_pos hR]]
    exact apply_e2 c s r hf hw hE h0 hR
  rw [show applyF c s r = doRec c s r by unfold applyF; rw [if_neg (not_not_intro hE), if_neg (not_not_intro hR)]]
  obtain ⟨hc, hs⟩ := stE_0 hE
  obtain ⟨hk, hg, hsp⟩ := recE_0 hR
  obtain ⟨he, hnx, hlv, hak, hln, hap, hal, hrm, hpd⟩ := hs
  have hn9 := hf.1
  have hc8 : c.allocs ≤ 8 := hc.2.1.2
  have hal2 : ∀ i : Nat, i < s.allocs.length → allocOk c s (s.at i) := fun i hi => by
    have := hal i hi
    unfold State.at
    rwa [toNat_nat]
  have hst : ∀ (i : Nat) (k : Int), 0 ≤ ((s.at i).tk k).state := fun i k => hw _ _
  have htl : ∀ i : Nat, (s.at i).tasks.length ≤ 1000 := fun i => by
    have := (hf.2 ((i : Int)).toNat).1
    unfold State.at
    omega
  unfold doRec
  by_cases k1 : r.kind = 1
  · rw [if_pos k1]
    obtain ⟨p1, p2, p3⟩ := specE_0 (hsp k1)
    have p4 := checkF_len p1
    refine apply_O c s r _ _ hf hw hE hR (.inl ⟨k1, rfl⟩) (place_m c s r (by omega) (by omega) (by omega) hc8 hlv (fun a ha => ?_) (pdis_ins p2 hpd _)) (place_z c s r)
    have hin : a ∈ s.allocs → a.spec.ports.length ≤ 1000 ∧ ∀ x ∈ a.spec.ports, (Lit.int .i64 x).wf = true := fun h => by
      obtain ⟨j, hj, e⟩ := List.getElem_of_mem h
      have hj2 := (specE_0 (hal2 j hj).1).1
      rw [show s.at j = a by unfold State.at; rw [toNat_nat, List.getD_eq_getElem?_getD, List.getElem?_eq_getElem hj, e]; rfl] at hj2
      exact ⟨by have := checkF_len hj2; omega, fun x hx => wf_int (by have := chk_mem hj2 x hx; omega)⟩
    unfold insA at ha
    rcases List.mem_append.1 ha with h1 | h1
    · exact hin (List.mem_of_mem_take h1)
    · rcases List.mem_cons.1 h1 with h2 | h2
      · subst h2
        exact ⟨by show r.spec.ports.length ≤ 1000; omega, fun x hx => wf_int (by have := chk_mem p1 x hx; omega)⟩
      · exact hin (List.mem_of_mem_drop h2)
  rw [if_neg k1]
  by_cases k2 : r.kind = 2
  · rw [if_pos k2]
    by_cases hi : findG s.allocs r.id 0 < 0
    · exact apply_O c s r _ _ hf hw hE hR (.inr (.inl ⟨k2, rfl⟩)) (stopN_m c s r hi) (stop_z s r)
    · obtain ⟨i, hi2, hil⟩ := find_at (s := s) (id := r.id) (by omega)
      have hz := stop_z s r
      rw [stop_i hi2] at hz ⊢
      refine apply_N c s i hil r _ _ hf hw hE hR (.inl ⟨k2, rfl⟩) (stop_m c s i r (by omega) hil hi2 ?_ (htl i) fun k hk => ?_) hz
      · have h1 := hg.2.2.2.1
        have h2 := hg.2.2.2.2.1
        unfold inR mT at *
        omega
      · have ha := (hal2 i hil).2.2.2.2.2.2 k hk
        unfold Alloc.tk
        rw [toNat_nat]
        exact ⟨by have := hst i k; unfold Alloc.tk at this; rwa [toNat_nat] at this, ha.1, fun hb => ha.2.2.2 hb⟩
  rw [if_neg k2]
  by_cases k3 : r.kind = 3
  · rw [if_pos k3]
    exact apply_O c s r _ _ hf hw hE hR (.inr (.inr (.inl ⟨k3, rfl⟩))) (forget_m c s r (by omega)) (forget_z s r)
  rw [if_neg k3]
  by_cases k9 : r.kind = 9
  · rw [if_pos k9]
    exact apply_O c s r _ _ hf hw hE hR (.inr (.inr (.inr (.inr (.inr (.inr (.inr (.inr ⟨k9, rfl⟩)))))))) (ack_m c s r) (ack_z s r)
  rw [if_neg k9]
  have hk5 : r.kind = 4 ∨ r.kind = 5 ∨ r.kind = 6 ∨ r.kind = 7 ∨ r.kind = 8 := by omega
  by_cases hi : findG s.allocs r.id 0 < 0
  · rw [turn_n hi]
    by_cases k4 : r.kind = 4
    · exact apply_O c s r _ _ hf hw hE hR (.inr (.inr (.inr (.inl ⟨k4, rfl⟩)))) (intentN_m c s r hi) fun _ => rfl
    · exact apply_O c s r _ 94 hf hw hE hR (by rcases hk5 with h | h | h | h | h <;> simp_all) (simpleN_m c s r hi) fun _ => rfl
  · obtain ⟨i, hi2, hil⟩ := find_at (s := s) (id := r.id) (by omega)
    have hz := turn_z s r
    have hl2 := (hal2 i hil).2.2.2.2.2.1
    rw [doTurn_i hi2] at hz ⊢
    by_cases k4 : r.kind = 4
    · exact apply_N c s i hil r _ _ hf hw hE hR (.inr (.inl ⟨k4, rfl⟩)) (intent_m c s i r k4 (by omega) hil hi2 hnx hl2 fun k => hst i k) hz
    · exact apply_N c s i hil r _ 94 hf hw hE hR (by rcases hk5 with h | h | h | h | h <;> simp_all) (simple_m c s i r (by omega) (by omega) hil hi2 hl2 fun k => hst i k) hz
end Go.Proofs.YtdblhmpcilihnaaGreat
