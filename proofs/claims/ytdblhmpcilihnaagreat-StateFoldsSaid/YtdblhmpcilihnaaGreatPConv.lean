/- Sets of ports as contracts of the engine, out of the old ones; calls under a weaker picture. -/
import Derived.Test.YtdblhmpcilihnaaGreatConv
import Derived.Test.YtdblhmpcilihnaaGreatFz
import Derived.Test.YtdblhmpcilihnaaGreatEE
import Derived.Test.YtdblhmpcilihnaaGreatPortsMeet
import Derived.Test.YtdblhmpcilihnaaGreatPortsRef
namespace Go.Proofs.YtdblhmpcilihnaaGreat
open Go.RowKit E
set_option maxRecDepth 100000
set_option linter.unusedVariables false
set_option linter.unusedSimpArgs false
theorem pure_of_calls2 {P : Program} {g : FuncId} {args : List AV} {r : AV} (fn : Func) (hf : P.funcs[g]? = some fn) (hb : fn.body.isNone = false) (hn : (fn.name == "runtime.NumGoroutine") = false) (fa : freeL args = true) (fr : r.free = true)
    (h : ∀ (F : Nat → Prop) (w : World) (vs : Array Value), (∀ b, F b → b < w.heap.size) → Rs 0 (fun _ => none) F w args vs → Calls P g vs w fun e w' => ∃ v, e = .returned v ∧ Below w.heap.size w w' ∧ AR (fun id => id < 0) (fun _ => none) (fun b => F b ∨ (w.heap.size ≤ b ∧ b < w'.heap.size)) w' r v) : E.Pure P g args r := by
  refine ⟨⟨⟨fn, hf, hb, hn⟩, fun σ F w vs hw hr => ?_⟩, fa, fr⟩
  have hr0 : Rs 0 (fun _ => none) F w args vs := ⟨hr.1, fun i x hx => (hr.2 i x hx).toFree (freeL_get fa hx)⟩
  refine (h F w vs hw.frz hr0).mono ?_
  rintro e w' ⟨v, rfl, hB, hx⟩
  refine ⟨v, rfl, r, σ, (fun b => F b ∨ (w.heap.size ≤ b ∧ b < w'.heap.size)), ⟨0, []⟩, rfl, ⟨⟨Nat.le_refl _, Nat.le_refl _⟩, fun _ _ => rfl, fun _ h => .inl h, fun _ h => h.elim .inl (fun h => .inr (.inl h.1)), fun b hb _ => hB.block b hb, fun b cs el z hc => ?_, fun _ h => .inl h, hB.size, hB.os, hB.tape, hB.output⟩,
    ⟨fun id blk hg => by simp [Hp.get, E.blkOf_nil, E.blkOf_cons] at hg, fun id id' blk blk' b o o' hg => by simp [Hp.get, E.blkOf_nil, E.blkOf_cons] at hg, fun b hb => hb.elim (fun hb => Nat.lt_of_lt_of_le (hw.frz b hb) hB.size) (fun hb => hb.2)⟩, hx.toFree fr⟩
  have hlt := (Array.getElem?_eq_some_iff.1 hc).1
  exact ⟨cs, by rw [hB.block b hlt]; exact hc, rfl⟩
theorem ar_of_owns {F : Nat → Prop} {w' : World} {base : Nat} {e : TypeId} {x : List Int} {v : Value} (h : w'.ownsRow base e 1 v x.length (x.map (Value.int .i64))) :
    AR (fun id => id < 0) (fun _ => none) (fun b => F b ∨ (base ≤ b ∧ b < w'.heap.size)) w' (slI x) v := by
  obtain ⟨h1, ⟨rfl, h2⟩ | ⟨g, cap, cur, rfl, hg, hb, hn, hm, hc, ht⟩⟩ := h
  · refine .sl _ _ _ _ ?_
    have hx : x.length = 0 := h2
    show FRel _ _ (.sl 1 x.length _) _
    rw [hx]
    exact .sl _ _ _ none 0 (fun _ _ => undef) 0 0 (by unfold maxLen; omega) (fun h => absurd h (Nat.not_lt_zero _)) (fun i hi => absurd hi (Nat.not_lt_zero _)) (fun i j hi => absurd hi (Nat.not_lt_zero _)) (fun i j y hi => absurd hi (Nat.not_lt_zero _))
  · have hlt := (Array.getElem?_eq_some_iff.1 hb).1
    refine .sl _ _ _ _ (.sl _ _ _ (some ⟨g, 0, none⟩) cap (fun i _ => .int .i64 (x.getD i 0)) g 0 ⟨hn, hm⟩ (fun _ => ⟨rfl, .inr ⟨hg, hlt⟩⟩) (fun i _ => rfl) (fun i j hi hj => ?_) (fun i j y hi hy => ?_))
    · obtain rfl : j = 0 := by omega
      have hi2 : i < cur.size := by omega
      have e1 : cur.toList[i]? = some (Value.int .i64 (x.getD i 0)) := by
        have : (cur.toList.take (x.length * 1))[i]? = (x.map (Value.int .i64))[i]? := by rw [ht]
        rw [List.getElem?_take, if_pos (by omega), List.getElem?_map] at this
        rw [this, List.getElem?_eq_getElem hi]
        simp [List.getD_eq_getElem?_getD, hi]
      simp [World.cell?, hb, go_sem]
      simpa using e1
    · cases j with
      | zero => simp at hy; subst hy; exact .val _
      | succ j => simp at hy
theorem wf_int {x : Int} (h : -9223372036854775808 ≤ x ∧ x ≤ 9223372036854775807) : (Lit.int .i64 x).wf = true := by
  simp [Lit.wf, IntKind.min, IntKind.max, IntKind.signed, IntKind.bits]; omega
theorem meet_p (xs ys : List Int) (hx : xs.length ≤ 1048576) (hy : ys.length ≤ 1048576) (wx : ∀ x ∈ xs, (Lit.int .i64 x).wf = true) (wy : ∀ x ∈ ys, (Lit.int .i64 x).wf = true) : Pure Tryz.prog 133 [slI xs, slI ys] (slI (meetF xs ys)) := by
  refine pure_of_calls2 Tryz.f133 Tryz.func133 rfl (by kernel_rfl) rfl rfl ?_
  intro F w vs hF hr
  obtain ⟨A, c, e1, hc, hs⟩ := ints_of hF (hr.2 0 _ rfl)
  obtain ⟨B, d, e2, hd, ht⟩ := ints_of hF (hr.2 1 _ rfl)
  have hsz := hr.1
  have ev : vs = #[.slice A xs.length c, .slice B ys.length d] := by
    apply Array.ext (by simpa using hsz)
    intro i h1 h2
    simp at hsz
    match i, h1 with
    | 0, _ => simpa [Array.getD_eq_getD_getElem?, hsz] using e1
    | 1, _ => simpa [Array.getD_eq_getD_getElem?, hsz] using e2
    | i + 2, h => omega
  subst ev
  refine (meet_any hc hd hs ht hx hy wx wy).mono ?_
  rintro e w' ⟨A', c', rfl, hm⟩
  exact ⟨_, rfl, hm.2.2, ar_of_owns hm.2.1⟩
theorem refMeet_p (xs ys : List Int) (hx : xs.length ≤ 1048576) : Pure Tryz.prog 144 [slI xs, slI ys] (slI (meetF xs ys)) := by
  refine pure_of_calls2 Tryz.f144 Tryz.func144 rfl (by kernel_rfl) rfl rfl ?_
  intro F w vs hF hr
  obtain ⟨A, c, e1, hc, hs⟩ := ints_of hF (hr.2 0 _ rfl)
  obtain ⟨B, d, e2, hd, ht⟩ := ints_of hF (hr.2 1 _ rfl)
  have hsz := hr.1
  have ev : vs = #[.slice A xs.length c, .slice B ys.length d] := by
    apply Array.ext (by simpa using hsz)
    intro i h1 h2
    simp at hsz
    match i, h1 with
    | 0, _ => simpa [Array.getD_eq_getD_getElem?, hsz] using e1
    | 1, _ => simpa [Array.getD_eq_getD_getElem?, hsz] using e2
    | i + 2, h => omega
  subst ev
  refine (refMeet_any hc hd hs ht hx).mono ?_
  rintro e w' ⟨A', c', rfl, hm⟩
  exact ⟨_, rfl, hm.2.2, ar_of_owns hm.2.1⟩
abbrev slIF (l : List Int) : FV := .sl 1 l.length fun i => [.val (.int .i64 (l.getD i 0))]
abbrev slIs (ls : List (List Int)) : AV := .sl 1 ls.length fun i => [slIF (ls.getD i [])]
theorem union2_p (xs ys : List Int) (hl : xs.length + ys.length ≤ 1048576) (wx : ∀ x ∈ xs, (Lit.int .i64 x).wf = true) (wy : ∀ x ∈ ys, (Lit.int .i64 x).wf = true) : Pure Tryz.prog 134 [slIs [xs, ys]] (slI (unionF [xs, ys])) := by
  refine pure_of_calls2 Tryz.f134 Tryz.func134 rfl (by kernel_rfl) rfl rfl ?_
  intro F w vs hF hr
  have h0 := hr.2 0 _ rfl
  have hsz := hr.1
  generalize hv : vs.getD 0 undef = v at h0
  cases h0 with
  | sl _ _ _ _ h =>
    cases h with
    | sl _ _ _ A c u b off hc hA hl' hu hr' =>
      have ev : vs = #[.slice A 2 c] := by
        apply Array.ext (by simpa using hsz)
        intro i h1 h2
        simp at hsz
        match i, h1 with
        | 0, _ => simpa [Array.getD_eq_getD_getElem?, hsz] using hv
        | i + 1, h => omega
      subst ev
      obtain ⟨A1, c1, e1, hc1, hs1⟩ := sl_of_frel hF (hr' 0 0 _ (by simp) rfl)
      obtain ⟨A2, c2, e2, hc2, hs2⟩ := sl_of_frel hF (hr' 1 0 _ (by simp) rfl)
      have hu1 := hu 0 0 (by simp) (by simp)
      have hu2 := hu 1 0 (by simp) (by simp)
      rw [e1] at hu1
      rw [e2] at hu2
      obtain ⟨hA1, hA2⟩ := hA (by simp)
      have hs : Kn.Sl (Kn.slice (Kn.int .i64)) w A [xs, ys] := by
        refine ⟨[.slice A1 _ c1, .slice A2 _ c2], ⟨[.slice A1 _ c1], [.slice A2 _ c2], rfl, ⟨A1, c1, rfl, hc1, hs1⟩, [.slice A2 _ c2], [], rfl, ⟨A2, c2, rfl, hc2, hs2⟩, rfl⟩, fun _ => ⟨b, off, hA1, hF b hA2, fun j y hy => ?_⟩⟩
        match j, hy with
        | 0, hy => simp at hy; subst hy; simpa using hu1
        | 1, hy => simp at hy; subst hy; simpa using hu2
        | j + 2, hy => simp at hy
      refine (union_any (ls := [xs, ys]) hc hs (by simpa using hl) (fun l hl => by
        rcases List.mem_cons.1 hl with rfl | hl
        · exact wx
        · rw [List.mem_singleton.1 hl]; exact wy)).mono ?_
      rintro e w' ⟨A', c', rfl, hm⟩
      exact ⟨_, rfl, hm.2.2, ar_of_owns hm.2.1⟩
/-- A call under a weaker picture. -/
theorem Pure.fz1 {P : Program} {g : FuncId} {id sz off len cap n : Nat} {ex : Bool} {f : Nat → List FV} {rows : List (List AV)} {mp : Option MB} {H : Hp} {K : AV → Hp → Prop} {r : AV} (h : E.Pure P g [.sl sz n f] r) (hg : H.get id = some ⟨sz, rows, mp⟩) (hn : len = n)
    (hx : ∀ i, i < n → rows[off + i]? = some ((f i).map FV.up)) (hk : K r (H.set id none)) : ACalls P g [.hsl id sz off len cap ex] H K := by
  subst hn
  refine ACalls.wk (args1 := [.sl sz len f]) (H1 := H.set id none) ?_ rfl (Pure.call h hk)
  have h2 : Wk H.next (argFr 0 [.hsl id sz off len cap ex]) H ((0, .sl sz len f) :: argFr 0 [.hsl id sz off len cap ex]) (H.set id none) := Wk.freeze (t := 0) hg (by show FzR id _ 4 (.hsl id sz off len cap ex) (.sl sz len f); unfold FzR; exact ⟨⟨⟨rfl, rfl⟩, rfl, rfl⟩, hx⟩)
  exact h2.trans (Wk.sub ⟨rfl, trivial⟩)
end Go.Proofs.YtdblhmpcilihnaaGreat
