/- The kit's copies and comparisons of the law packages: contracts by the engine. Copies of specifications, allocations, states; comparisons at equal values; Few: contracts by the engine. Few, and the small functions of layers 12, 19 and 31: contracts by the engine. Layers 12 and 19 (task.Check, the reference's): contracts by the engine. The reference's starts (layer 12). -/
import Derived.Test.YtdblhmpcilihnaaGreatEncData
import Derived.Test.YtdblhmpcilihnaaGreatGo
namespace Go.Proofs.YtdblhmpcilihnaaGreat
open Go.RowKit E
set_option maxRecDepth 100000
set_option linter.unusedVariables false
set_option linter.unusedSimpArgs false
theorem mx : Tryz.prog.follows .mixedOrders = true := by kernel_rfl
abbrev I (n : Int) : AV := .val (.int .i64 n)
abbrev U8 (n : Int) : AV := .val (.int .u8 n)
abbrev B (b : Bool) : AV := .val (.bool b)
abbrev slI (l : List Int) : AV := .sl 1 l.length fun i => [.val (.int .i64 (l.getD i 0))]
theorem ret_fz {n0 : Nat} {x x1 : AV} {H : Hp} {K : AV → Hp → Prop} {blk : Blk} (id : Nat) (hg : H.get id = some blk) (hx : FzR id blk 4 x x1) (hk : ∀ H1, K x1 H1) : ∃ x1 H1, Wk n0 [(0, x)] H [(0, x1)] H1 ∧ K x1 H1 :=
  have h : Wk n0 [(0, x)] H ((0, x1) :: [(0, x)]) (H.set id none) := Wk.freeze (fr := [(0, x)]) (t := 0) hg hx
  ⟨x1, _, h.trans (Wk.sub ⟨rfl, trivial⟩), hk _⟩
theorem ret_fsl {n0 id sz off len cap n : Nat} {ex : Bool} {f : Nat → List FV} {rows : List (List AV)} {mp : Option MB} {H : Hp} {K : AV → Hp → Prop} (hg : H.get id = some ⟨sz, rows, mp⟩) (hk : ∀ H1, K (.sl sz n f) H1) (hn : len = n)
    (hx : ∀ i, i < n → rows[off + i]? = some ((f i).map FV.up)) : ∃ x1 H1, Wk n0 [(0, .hsl id sz off len cap ex)] H [(0, x1)] H1 ∧ K x1 H1 := by
  subst hn
  exact ret_fz (x1 := .sl sz len f) id hg (by unfold FzR; exact ⟨⟨⟨rfl, rfl⟩, rfl, rfl⟩, hx⟩) hk
theorem free_up (l : List FV) : freeL (l.map FV.up) = true := by
  induction l with
  | nil => rfl
  | cons a l ih => show (freeN 5 a.up && freeL (l.map FV.up)) = true; rw [ih]; cases a <;> rfl
theorem free_rows {n : Nat} {f : Nat → List FV} : ∀ row ∈ (List.range n).map (fun i => (f i).map FV.up), freeL row = true := fun row h => by
  obtain ⟨i, _, rfl⟩ := List.mem_map.1 h
  exact free_up _
theorem inj1 {k : Nat} {ρ : Nat → Nat} : ∀ a ∈ [k], ∀ b ∈ [k], ρ a = ρ b → a = b := fun a ha b hb _ => by rw [List.mem_singleton.1 ha, List.mem_singleton.1 hb]
theorem copyInts_p (l : List Int) (hl : l.length ≤ 1000000) : Pure Tryz.prog 97 [slI l] (slI l) := by
  refine Pure.ev Tryz.f97 mx Tryz.func97 (by kernel_rfl) rfl rfl rfl ?_ <;> (refine goS ?_ <;> repeat (intro _ <;> refine goS ?_))
  refine ⟨by rw [List.length_map, List.length_range]; show l.length * 8 ≤ _; omega, ?_⟩
  (refine goS ?_ <;> repeat (intro _ <;> refine goS ?_))
  exact ret_fsl rfl (fun _ => rfl) (by simp) fun i hi => by simp [hi]
theorem copyTaskSpecs_p (l : List TaskSpec) (hl : l.length ≤ 1000000) : Pure Tryz.prog 98 [.sl 6 l.length fun i => TaskSpec.fv (l.getD i default)] (.sl 6 l.length fun i => TaskSpec.fv (l.getD i default)) := by
  refine Pure.ev Tryz.f98 mx Tryz.func98 (by kernel_rfl) rfl rfl rfl ?_ <;> (refine goS ?_ <;> repeat (intro _ <;> refine goS ?_))
  refine ⟨by rw [List.length_map, List.length_range]; show l.length * 48 ≤ _; omega, ?_⟩
  (refine goS ?_ <;> repeat (intro _ <;> refine goS ?_))
  exact ret_fsl rfl (fun _ => rfl) (by simp) fun i hi => by simp [hi]
theorem copyTask_p (t : Task) (hl : t.starts.length ≤ 1000000) : Pure Tryz.prog 135 [t.av] t.av := by
  refine Pure.ev Tryz.f135 mx Tryz.func135 (by kernel_rfl) rfl rfl rfl ?_ <;> (refine goS ?_ <;> repeat (intro _ <;> refine goS ?_))
  refine Pure.call (copyInts_p t.starts hl) ?_ <;> (refine goS ?_ <;> repeat (intro _ <;> refine goS ?_))
  exact ret_now _ rfl
theorem copyTasks_p (l : List Task) (hl : l.length ≤ 1000) (hs : ∀ i, (l.getD i default).starts.length ≤ 1000000) : Pure Tryz.prog 69 [.sl 8 l.length fun i => Task.fv (l.getD i default)] (.sl 8 l.length fun i => Task.fv (l.getD i default)) := by
  refine Pure.ev Tryz.f69 mx Tryz.func69 (by kernel_rfl) rfl rfl rfl ?_ <;> (refine goS ?_ <;> repeat (intro _ <;> refine goS ?_))
  refine loop_st (S := Nat) (fun k => [(0, .sl 8 l.length fun i => Task.fv (l.getD i default)), (3, .hsl 0 8 0 k k false), (4, I k)]) (fun k => ⟨1, [(0, some ⟨8, (List.range k).map fun i => (Task.fv (l.getD i default)).map FV.up, none⟩)]⟩)
    (fun k => k ≤ l.length) (fun k => l.length - k) 0 ((Wk.phantom 3 8 rfl).trans (Wk.sub ⟨rfl, rfl, rfl, trivial⟩)) (Nat.zero_le _) ?_
  intro k hk
  (refine goS ?_ <;> repeat (intro _ <;> refine goS ?_))
  refine onB_mk (fun h => ?_) (fun h => ?_) <;> (simp at h) <;> (refine goS ?_ <;> repeat (intro _ <;> refine goS ?_))
  · refine Pure.call (copyTask_p (l.getD k default) (hs k)) ?_ <;> (refine goS ?_ <;> repeat (intro _ <;> refine goS ?_))
    have hh : 0 + k = ((List.range k).map fun i => (Task.fv (l.getD i default)).map FV.up).length ∧ oneRows [(Task.fv (l.getD k default)).map FV.up] ∧ (k + 1) * 80 ≤ 140737488355328 := ⟨by simp, oneRows_of rfl, by omega⟩
    refine And.intro hh ?_ <;> (refine goS ?_ <;> repeat (intro _ <;> refine goS ?_))
    exact ⟨k + 1, by omega, h, Wk.re (fun _ => 2) rfl (nofun) inj1 ⟨⟨rfl, rfl⟩, ⟨rfl, rfl⟩, ⟨by simp only [← wrapS (show k < 9223372036854775807 by omega)]; rfl, rfl⟩, trivial⟩
      ⟨⟨rfl, _, rfl, .inl ⟨by rw [List.range_succ, List.map_append]; rfl, free_rows⟩, nofun⟩, trivial⟩⟩
  · exact ret_fsl rfl (fun _ => rfl) (by omega) fun i hi => by simp [show i < k by omega]
abbrev slT (l : List Task) : AV := .sl 8 l.length fun i => Task.fv (l.getD i default)
abbrev slS (l : List TaskSpec) : AV := .sl 6 l.length fun i => TaskSpec.fv (l.getD i default)
abbrev slA (l : List Alloc) : AV := .sl 10 l.length fun i => Alloc.fv (l.getD i default)
def Alloc.few (a : Alloc) : Prop := a.tasks.length ≤ 5 ∧ a.spec.tasks.length ≤ 5 ∧ a.spec.ports.length ≤ 9 ∧ ∀ k, (a.tasks.getD k default).starts.length ≤ 20
def State.few (s : State) : Prop := s.allocs.length ≤ 9 ∧ ∀ i, (s.allocs.getD i default).few
theorem copySpec_p (s : Spec) (hl : s.ports.length ≤ 1000000) (hs : s.tasks.length ≤ 1000000) : Pure Tryz.prog 57 [s.av] s.av := by
  refine Pure.ev Tryz.f57 mx Tryz.func57 (by kernel_rfl) rfl rfl rfl ?_ <;> (refine goS ?_ <;> repeat (intro _ <;> refine goS ?_))
  (first | refine Pure.call (copyInts_p s.ports hl) ?_ | refine HCall.pure (copyInts_p s.ports hl) ?_) <;> (refine goS ?_ <;> repeat (intro _ <;> refine goS ?_))
  (first | refine Pure.call (copyTaskSpecs_p s.tasks hs) ?_ | refine HCall.pure (copyTaskSpecs_p s.tasks hs) ?_) <;> (refine goS ?_ <;> repeat (intro _ <;> refine goS ?_))
  exact ret_now _ rfl
theorem copyAlloc_p (a : Alloc) (h : a.few) : Pure Tryz.prog 33 [a.av] a.av := by
  obtain ⟨h1, h2, h3, h4⟩ := h
  refine Pure.ev Tryz.f33 mx Tryz.func33 (by kernel_rfl) rfl rfl rfl ?_ <;> (refine goS ?_ <;> repeat (intro _ <;> refine goS ?_))
  (first | refine Pure.call (copySpec_p a.spec (by omega) (by omega)) ?_ | refine HCall.pure (copySpec_p a.spec (by omega) (by omega)) ?_) <;> (refine goS ?_ <;> repeat (intro _ <;> refine goS ?_))
  (first | refine Pure.call (copyTasks_p a.tasks (by omega) (fun i => by have := h4 i; omega)) ?_ | refine HCall.pure (copyTasks_p a.tasks (by omega) (fun i => by have := h4 i; omega)) ?_) <;> (refine goS ?_ <;> repeat (intro _ <;> refine goS ?_))
  exact ret_now _ rfl
theorem copyAllocs_p (l : List Alloc) (hl : l.length ≤ 1000) (hs : ∀ i, (l.getD i default).few) : Pure Tryz.prog 59 [slA l] (slA l) := by
  refine Pure.ev Tryz.f59 mx Tryz.func59 (by kernel_rfl) rfl rfl rfl ?_ <;> (refine goS ?_ <;> repeat (intro _ <;> refine goS ?_))
  refine loop_st (S := Nat) (fun k => [(0, slA l), (3, .hsl 0 10 0 k k false), (4, I k)]) (fun k => ⟨1, [(0, some ⟨10, (List.range k).map fun i => (Alloc.fv (l.getD i default)).map FV.up, none⟩)]⟩)
    (fun k => k ≤ l.length) (fun k => l.length - k) 0 ((Wk.phantom 3 10 rfl).trans (Wk.sub ⟨rfl, rfl, rfl, trivial⟩)) (Nat.zero_le _) ?_
  intro k hk
  (refine goS ?_ <;> repeat (intro _ <;> refine goS ?_))
  refine onB_mk (fun h => ?_) (fun h => ?_) <;> (simp at h) <;> (refine goS ?_ <;> repeat (intro _ <;> refine goS ?_))
  · refine Pure.call (copyAlloc_p (l.getD k default) (hs k)) ?_ <;> (refine goS ?_ <;> repeat (intro _ <;> refine goS ?_))
    have hh : 0 + k = ((List.range k).map fun i => (Alloc.fv (l.getD i default)).map FV.up).length ∧ oneRows [(Alloc.fv (l.getD k default)).map FV.up] ∧ (k + 1) * 128 ≤ 140737488355328 := ⟨by simp, oneRows_of rfl, by omega⟩
    refine And.intro hh ?_ <;> (refine goS ?_ <;> repeat (intro _ <;> refine goS ?_))
    exact ⟨k + 1, by omega, h, Wk.re (fun _ => 2) rfl (nofun) inj1 ⟨⟨rfl, rfl⟩, ⟨rfl, rfl⟩, ⟨by simp only [← wrapS (show k < 9223372036854775807 by omega)]; rfl, rfl⟩, trivial⟩
      ⟨⟨rfl, _, rfl, .inl ⟨by rw [List.range_succ, List.map_append]; rfl, free_rows⟩, nofun⟩, trivial⟩⟩
  · exact ret_fsl rfl (fun _ => rfl) (by omega) fun i hi => by simp [show i < k by omega]
theorem copyState_p (s : State) (h : s.few) : Pure Tryz.prog 26 [s.av] s.av := by
  obtain ⟨h1, h2⟩ := h
  refine Pure.ev Tryz.f26 mx Tryz.func26 (by kernel_rfl) rfl rfl rfl ?_ <;> (refine goS ?_ <;> repeat (intro _ <;> refine goS ?_))
  refine Pure.call (copyAllocs_p s.allocs (by omega) h2) ?_ <;> (refine goS ?_ <;> repeat (intro _ <;> refine goS ?_))
  exact ret_now _ rfl
theorem equalInts_p (l : List Int) : Pure Tryz.prog 55 [slI l, slI l] (B true) := by
  refine Pure.ev Tryz.f55 mx Tryz.func55 (by kernel_rfl) rfl rfl rfl ?_ <;> (refine goS ?_ <;> repeat (intro _ <;> refine goS ?_))
  refine onB_mk (fun h => absurd h (by simp)) (fun _ => ?_) <;> (refine goS ?_ <;> repeat (intro _ <;> refine goS ?_))
  refine loop_st (S := Nat) (fun k => [(0, slI l), (1, slI l), (5, I k)]) (fun _ => ⟨0, []⟩) (fun k => k ≤ l.length) (fun k => l.length - k) 0
      (Wk.sub ⟨rfl, rfl, rfl, trivial⟩) (Nat.zero_le _) ?_
  intro k hk
  (refine goS ?_ <;> repeat (intro _ <;> refine goS ?_))
  refine onB_mk (fun h => ?_) (fun h => ?_) <;> (simp at h) <;> (refine goS ?_ <;> repeat (intro _ <;> refine goS ?_))
  · refine onB_mk (fun h => absurd h (by simp)) (fun _ => ?_) <;> (refine goS ?_ <;> repeat (intro _ <;> refine goS ?_))
    exact ⟨k + 1, by omega, h, Wk.sub ⟨rfl, rfl, by simp only [← wrapS (show k < 9223372036854775807 by omega)]; rfl, trivial⟩⟩
  · exact ret_now _ rfl
theorem equalTaskSpecs_p (l : List TaskSpec) : Pure Tryz.prog 109 [slS l, slS l] (B true) := by
  refine Pure.ev Tryz.f109 mx Tryz.func109 (by kernel_rfl) rfl rfl rfl ?_ <;> (refine goS ?_ <;> repeat (intro _ <;> refine goS ?_))
  refine onB_mk (fun h => absurd h (by simp)) (fun _ => ?_) <;> (refine goS ?_ <;> repeat (intro _ <;> refine goS ?_))
  refine loop_st (S := Nat) (fun k => [(0, slS l), (1, slS l), (5, I k)]) (fun _ => ⟨0, []⟩) (fun k => k ≤ l.length) (fun k => l.length - k) 0
      (Wk.sub ⟨rfl, rfl, rfl, trivial⟩) (Nat.zero_le _) ?_
  intro k hk
  (refine goS ?_ <;> repeat (intro _ <;> refine goS ?_))
  refine onB_mk (fun h => ?_) (fun h => ?_) <;> (simp at h) <;> (refine goS ?_ <;> repeat (intro _ <;> refine goS ?_))
  · (rw [evN_cmp]; rotate_left 1; (focus kernel_rfl)) <;> (refine goS ?_ <;> repeat (intro _ <;> refine goS ?_))
    refine onB_mk (fun h => absurd h (by simp)) (fun _ => ?_) <;> (refine goS ?_ <;> repeat (intro _ <;> refine goS ?_))
    exact ⟨k + 1, by omega, h, Wk.sub ⟨rfl, rfl, by simp only [← wrapS (show k < 9223372036854775807 by omega)]; rfl, trivial⟩⟩
  · exact ret_now _ rfl
theorem equalTask_p (t : Task) : Pure Tryz.prog 34 [t.av, t.av] (B true) := by
  refine Pure.ev Tryz.f34 mx Tryz.func34 (by kernel_rfl) rfl rfl rfl ?_ <;> (refine goS ?_ <;> repeat (intro _ <;> refine goS ?_))
  iterate 7 (refine onB_mk (fun h => ?_) (fun h => absurd h (by simp)) <;> (try rw [h]) <;> (refine goS ?_ <;> repeat (intro _ <;> refine goS ?_)))
  refine Pure.call (equalInts_p t.starts) ?_ <;> (refine goS ?_ <;> repeat (intro _ <;> refine goS ?_))
  exact ret_now _ rfl
theorem equalTasks_p (l : List Task) : Pure Tryz.prog 171 [slT l, slT l] (B true) := by
  refine Pure.ev Tryz.f171 mx Tryz.func171 (by kernel_rfl) rfl rfl rfl ?_ <;> (refine goS ?_ <;> repeat (intro _ <;> refine goS ?_))
  refine onB_mk (fun h => absurd h (by simp)) (fun _ => ?_) <;> (refine goS ?_ <;> repeat (intro _ <;> refine goS ?_))
  refine loop_st (S := Nat) (fun k => [(0, slT l), (1, slT l), (5, I k)]) (fun _ => ⟨0, []⟩) (fun k => k ≤ l.length) (fun k => l.length - k) 0
      (Wk.sub ⟨rfl, rfl, rfl, trivial⟩) (Nat.zero_le _) ?_
  intro k hk
  (refine goS ?_ <;> repeat (intro _ <;> refine goS ?_))
  refine onB_mk (fun h => ?_) (fun h => ?_) <;> (simp at h) <;> (refine goS ?_ <;> repeat (intro _ <;> refine goS ?_))
  · (first | refine Pure.call (equalTask_p (l.getD k default)) ?_ | refine HCall.pure (equalTask_p (l.getD k default)) ?_) <;> (refine goS ?_ <;> repeat (intro _ <;> refine goS ?_))
    exact ⟨k + 1, by omega, h, Wk.sub ⟨rfl, rfl, by simp only [← wrapS (show k < 9223372036854775807 by omega)]; rfl, trivial⟩⟩
  · exact ret_now _ rfl
theorem equalSpec_p (s : Spec) : Pure Tryz.prog 62 [s.av, s.av] (B true) := by
  refine Pure.ev Tryz.f62 mx Tryz.func62 (by kernel_rfl) rfl rfl rfl ?_ <;> (refine goS ?_ <;> repeat (intro _ <;> refine goS ?_))
  refine onB_mk (fun h => ?_) (fun h => absurd h (by simp)) <;> (try rw [h]) <;> (refine goS ?_ <;> repeat (intro _ <;> refine goS ?_))
  (rw [evN_cmp]; rotate_left 1; (focus kernel_rfl)) <;> (refine goS ?_ <;> repeat (intro _ <;> refine goS ?_))
  refine onB_mk (fun h => ?_) (fun h => absurd h (by simp)) <;> (try rw [h]) <;> (refine goS ?_ <;> repeat (intro _ <;> refine goS ?_))
  refine Pure.call (equalInts_p s.ports) ?_ <;> (refine goS ?_ <;> repeat (intro _ <;> refine goS ?_))
  refine Pure.call (equalTaskSpecs_p s.tasks) ?_ <;> (refine goS ?_ <;> repeat (intro _ <;> refine goS ?_))
  exact ret_now _ rfl
theorem equalAlloc_p (a : Alloc) : Pure Tryz.prog 96 [a.av, a.av] (B true) := by
  refine Pure.ev Tryz.f96 mx Tryz.func96 (by kernel_rfl) rfl rfl rfl ?_ <;> (refine goS ?_ <;> repeat (intro _ <;> refine goS ?_))
  iterate 3 (refine onB_mk (fun h => ?_) (fun h => absurd h (by simp)) <;> (try rw [h]) <;> (refine goS ?_ <;> repeat (intro _ <;> refine goS ?_)))
  refine Pure.call (equalSpec_p a.spec) ?_ <;> (refine goS ?_ <;> repeat (intro _ <;> refine goS ?_))
  refine Pure.call (equalTasks_p a.tasks) ?_ <;> (refine goS ?_ <;> repeat (intro _ <;> refine goS ?_))
  exact ret_now _ rfl
theorem equalAllocs_p (l : List Alloc) : Pure Tryz.prog 56 [slA l, slA l] (B true) := by
  refine Pure.ev Tryz.f56 mx Tryz.func56 (by kernel_rfl) rfl rfl rfl ?_ <;> (refine goS ?_ <;> repeat (intro _ <;> refine goS ?_))
  refine onB_mk (fun h => absurd h (by simp)) (fun _ => ?_) <;> (refine goS ?_ <;> repeat (intro _ <;> refine goS ?_))
  refine loop_st (S := Nat) (fun k => [(0, slA l), (1, slA l), (5, I k)]) (fun _ => ⟨0, []⟩) (fun k => k ≤ l.length) (fun k => l.length - k) 0
      (Wk.sub ⟨rfl, rfl, rfl, trivial⟩) (Nat.zero_le _) ?_
  intro k hk
  (refine goS ?_ <;> repeat (intro _ <;> refine goS ?_))
  refine onB_mk (fun h => ?_) (fun h => ?_) <;> (simp at h) <;> (refine goS ?_ <;> repeat (intro _ <;> refine goS ?_))
  · (first | refine Pure.call (equalAlloc_p (l.getD k default)) ?_ | refine HCall.pure (equalAlloc_p (l.getD k default)) ?_) <;> (refine goS ?_ <;> repeat (intro _ <;> refine goS ?_))
    exact ⟨k + 1, by omega, h, Wk.sub ⟨rfl, rfl, by simp only [← wrapS (show k < 9223372036854775807 by omega)]; rfl, trivial⟩⟩
  · exact ret_now _ rfl
theorem equalState_p (s : State) : Pure Tryz.prog 22 [s.av, s.av] (B true) := by
  refine Pure.ev Tryz.f22 mx Tryz.func22 (by kernel_rfl) rfl rfl rfl ?_ <;> (refine goS ?_ <;> repeat (intro _ <;> refine goS ?_))
  iterate 4 (refine onB_mk (fun h => ?_) (fun h => absurd h (by simp)) <;> (try rw [h]) <;> (refine goS ?_ <;> repeat (intro _ <;> refine goS ?_)))
  refine Pure.call (equalAllocs_p s.allocs) ?_ <;> (refine goS ?_ <;> repeat (intro _ <;> refine goS ?_))
  exact ret_now _ rfl
theorem equalRec_p (r : Rec) : Pure Tryz.prog 28 [r.av, r.av] (B true) := by
  refine Pure.ev Tryz.f28 mx Tryz.func28 (by kernel_rfl) rfl rfl rfl ?_ <;> (refine goS ?_ <;> repeat (intro _ <;> refine goS ?_))
  iterate 9 (refine onB_mk (fun h => ?_) (fun h => absurd h (by simp)) <;> (try rw [h]) <;> (refine goS ?_ <;> repeat (intro _ <;> refine goS ?_)))
  refine Pure.call (equalSpec_p r.spec) ?_ <;> (refine goS ?_ <;> repeat (intro _ <;> refine goS ?_))
  exact ret_now _ rfl
theorem row1 {n : Nat} {r : List AV} (h : bdL n r = true) : ∀ row ∈ [r], bdL n row = true := fun row hr => by rw [List.mem_singleton.1 hr]; exact h
open Classical in
noncomputable def fewB (s : State) : Bool := decide s.few
open Classical in
theorem fewB_no {s : State} (h : ¬ s.few) : fewB s = false := decide_eq_false h
open Classical in
theorem fewB_yes {s : State} (h : s.few) : fewB s = true := decide_eq_true h
open Classical in
theorem fewB_few {s : State} (h : fewB s = true) : s.few := of_decide_eq_true h
theorem few_p (s : State) : Pure Tryz.prog 35 [s.av] (B (fewB s)) := by
  refine Pure.ev Tryz.f35 mx Tryz.func35 (by kernel_rfl) rfl rfl rfl ?_ <;> (refine goS ?_ <;> repeat (intro _ <;> refine goS ?_))
  refine onB_mk (fun h => ?_) (fun h => ?_) <;> (try rw [h]) <;> (try simp only [decide_eq_true_eq, decide_eq_false_iff_not, beq_iff_eq, beq_eq_false_iff_ne, bne_iff_ne, bne_eq_false_iff_eq, ne_eq, Int.not_lt, Int.not_le, gt_iff_lt, ge_iff_le, Int.ofNat_lt, Int.natCast_inj] at h) <;> (refine goS ?_ <;> repeat (intro _ <;> refine goS ?_))
  · refine ret_now _ ?_
    rw [fewB_no fun hf => by have := hf.1; omega]
  · refine loop_st (S := Nat) (fun k => [(1, .hptr 0 5 0 0), (3, I k)]) (fun _ => ⟨1, [(0, some ⟨5, [s.fv.map FV.up], none⟩)]⟩) (fun k => k ≤ s.allocs.length ∧ ∀ j, j < k → (s.allocs.getD j default).few) (fun k => s.allocs.length - k) 0
      (Wk.cut rfl ⟨⟨rfl, rfl⟩, ⟨rfl, rfl⟩, trivial⟩ ⟨⟨rfl, rfl, row1 rfl, nofun⟩, trivial⟩) ⟨Nat.zero_le _, fun j hj => absurd hj (Nat.not_lt_zero _)⟩ ?_
    rintro i ⟨hi, hpre⟩
    (refine goS ?_ <;> repeat (intro _ <;> refine goS ?_))
    refine onB_mk (fun h => ?_) (fun h => ?_) <;> (try rw [h]) <;> (try simp only [decide_eq_true_eq, decide_eq_false_iff_not, beq_iff_eq, beq_eq_false_iff_ne, bne_iff_ne, bne_eq_false_iff_eq, ne_eq, Int.not_lt, Int.not_le, gt_iff_lt, ge_iff_le, Int.ofNat_lt, Int.natCast_inj] at h) <;> (refine goS ?_ <;> repeat (intro _ <;> refine goS ?_))
    · have few1 : ∀ {P : Prop}, ((s.allocs.getD i default).few → False) → fewB s = false := fun hh => fewB_no fun hf => hh (hf.2 i)
      have ht : (Int.toNat (i : Int)) = i := Int.toNat_natCast i
      simp only [ht]
      refine onB_mk (fun h => ?_) (fun h => ?_) <;> (try rw [h]) <;> (try simp only [decide_eq_true_eq, decide_eq_false_iff_not, beq_iff_eq, beq_eq_false_iff_ne, bne_iff_ne, bne_eq_false_iff_eq, ne_eq, Int.not_lt, Int.not_le, gt_iff_lt, ge_iff_le, Int.ofNat_lt, Int.natCast_inj] at h) <;> (refine goS ?_ <;> repeat (intro _ <;> refine goS ?_))
      · refine ret_now _ ?_
        rw [few1 (P := True) fun hf => by have := hf.1; omega]
      · refine onB_mk (fun h => ?_) (fun h => ?_) <;> (try rw [h]) <;> (try simp only [decide_eq_true_eq, decide_eq_false_iff_not, beq_iff_eq, beq_eq_false_iff_ne, bne_iff_ne, bne_eq_false_iff_eq, ne_eq, Int.not_lt, Int.not_le, gt_iff_lt, ge_iff_le, Int.ofNat_lt, Int.natCast_inj] at h) <;> (refine goS ?_ <;> repeat (intro _ <;> refine goS ?_))
        · refine ret_now _ ?_
          rw [few1 (P := True) fun hf => by have := hf.2.1; omega]
        · refine onB_mk (fun h => ?_) (fun h => ?_) <;> (try rw [h]) <;> (try simp only [decide_eq_true_eq, decide_eq_false_iff_not, beq_iff_eq, beq_eq_false_iff_ne, bne_iff_ne, bne_eq_false_iff_eq, ne_eq, Int.not_lt, Int.not_le, gt_iff_lt, ge_iff_le, Int.ofNat_lt, Int.natCast_inj] at h) <;> (refine goS ?_ <;> repeat (intro _ <;> refine goS ?_))
          · refine ret_now _ ?_
            rw [few1 (P := True) fun hf => by have := hf.2.2.1; omega]
          · refine loop_st (S := Nat) (fun k => [(1, .hptr 0 5 0 0), (3, I i), (4, .hptr 1 10 0 0), (5, I k)]) (fun _ => ⟨2, [(1, some ⟨10, [(s.allocs.getD i default).fv.map FV.up], none⟩), (0, some ⟨5, [s.fv.map FV.up], none⟩)]⟩)
              (fun k => k ≤ (s.allocs.getD i default).tasks.length ∧ ∀ j, j < k → ((s.allocs.getD i default).tasks.getD j default).starts.length ≤ 20) (fun k => (s.allocs.getD i default).tasks.length - k) 0
              (Wk.cut rfl ⟨⟨rfl, rfl⟩, ⟨rfl, rfl⟩, ⟨rfl, rfl⟩, ⟨rfl, rfl⟩, trivial⟩ ⟨⟨rfl, rfl, row1 rfl, nofun⟩, ⟨rfl, rfl, row1 rfl, nofun⟩, trivial⟩) ⟨Nat.zero_le _, fun j hj => absurd hj (Nat.not_lt_zero _)⟩ ?_
            rintro k ⟨hk, hkp⟩
            (refine goS ?_ <;> repeat (intro _ <;> refine goS ?_))
            refine onB_mk (fun h => ?_) (fun h => ?_) <;> (try rw [h]) <;> (try simp only [decide_eq_true_eq, decide_eq_false_iff_not, beq_iff_eq, beq_eq_false_iff_ne, bne_iff_ne, bne_eq_false_iff_eq, ne_eq, Int.not_lt, Int.not_le, gt_iff_lt, ge_iff_le, Int.ofNat_lt, Int.natCast_inj] at h) <;> (refine goS ?_ <;> repeat (intro _ <;> refine goS ?_))
            · refine onB_mk (fun h => ?_) (fun h => ?_) <;> (try rw [h]) <;> (try simp only [decide_eq_true_eq, decide_eq_false_iff_not, beq_iff_eq, beq_eq_false_iff_ne, bne_iff_ne, bne_eq_false_iff_eq, ne_eq, Int.not_lt, Int.not_le, gt_iff_lt, ge_iff_le, Int.ofNat_lt, Int.natCast_inj] at h) <;> (refine goS ?_ <;> repeat (intro _ <;> refine goS ?_))
              · refine ret_now _ ?_
                rw [few1 (P := True) fun hf => by have := hf.2.2.2 k; simp only [Int.toNat_natCast] at h; omega]
              · refine ⟨k + 1, by omega, ⟨by omega, fun j hj => ?_⟩, Wk.sub ⟨rfl, rfl, rfl, by simp only [← wrapS (show k < 9223372036854775807 by omega)]; rfl, trivial⟩⟩
                rcases Nat.lt_succ_iff_lt_or_eq.1 hj with h1 | rfl
                · exact hkp j h1
                · simp only [Int.toNat_natCast] at h; omega
            · refine ⟨i + 1, by omega, ⟨by omega, fun j hj => ?_⟩, Wk.cut rfl ⟨⟨rfl, rfl⟩, ⟨by simp only [← wrapS (show i < 9223372036854775807 by omega)]; rfl, rfl⟩, trivial⟩ ⟨⟨rfl, rfl, row1 rfl, nofun⟩, trivial⟩⟩
              rcases Nat.lt_succ_iff_lt_or_eq.1 hj with h1 | rfl
              · exact hpre j h1
              · refine ⟨by omega, by omega, by omega, fun m => ?_⟩
                by_cases c : m < k
                · exact hkp m c
                · rw [show ((s.allocs.getD j default).tasks.getD m default) = default by simp [List.getD_eq_getElem?_getD] at *; rw [List.getElem?_eq_none (by omega)]; rfl]
                  decide
    · refine ret_now _ ?_
      rw [fewB_yes ⟨by omega, fun j => ?_⟩]
      by_cases c : j < i
      · exact hpre j c
      · have : s.allocs.getD j default = default := by simp [List.getD_eq_getElem?_getD, show s.allocs.length ≤ j by omega]
        rw [this]
        exact ⟨by decide, by decide, by decide, fun k => by show ((([] : List Task).getD k default).starts.length ≤ 20); rw [List.getD_nil]; decide⟩
theorem in_p (n a b : Int) : Pure Tryz.prog 148 [I n, I a, I b] (B (decide (a ≤ n ∧ n ≤ b))) := by
  refine Pure.ev Tryz.f148 mx Tryz.func148 (by kernel_rfl) rfl rfl rfl ?_ <;> (refine goS ?_ <;> repeat (intro _ <;> refine goS ?_))
  refine onB_mk (fun h => ?_) (fun h => ?_) <;> (try rw [h]) <;> (try simp only [decide_eq_true_eq, decide_eq_false_iff_not, beq_iff_eq, beq_eq_false_iff_ne, bne_iff_ne, bne_eq_false_iff_eq, ne_eq, Int.not_lt, Int.not_le, gt_iff_lt, ge_iff_le, Int.ofNat_lt, Int.natCast_inj] at h) <;> (refine goS ?_ <;> repeat (intro _ <;> refine goS ?_)) <;> try refine onB_mk (fun h => ?_) (fun h => ?_) <;> (try rw [h]) <;> (try simp only [decide_eq_true_eq, decide_eq_false_iff_not, beq_iff_eq, beq_eq_false_iff_ne, bne_iff_ne, bne_eq_false_iff_eq, ne_eq, Int.not_lt, Int.not_le, gt_iff_lt, ge_iff_le, Int.ofNat_lt, Int.natCast_inj] at h) <;> (refine goS ?_ <;> repeat (intro _ <;> refine goS ?_))
  all_goals (refine ret_now _ ?_; congr 2; simp; omega)
theorem only_p (n m : Int) (may : Bool) : Pure Tryz.prog 149 [I n, I m, B may] (B (decide (n = 0 ∨ may = true ∧ 0 ≤ n ∧ n ≤ m))) := by
  refine Pure.ev Tryz.f149 mx Tryz.func149 (by kernel_rfl) rfl rfl rfl ?_ <;> (refine goS ?_ <;> repeat (intro _ <;> refine goS ?_))
  refine onB_mk (fun h => ?_) (fun h => ?_) <;> (try rw [h]) <;> (try simp [-List.getD_eq_getElem?_getD, wl, List.getD_cons_zero, List.getD_cons_succ] at h) <;> (refine goS ?_ <;> repeat (intro _ <;> refine goS ?_))
  · refine ret_now _ ?_
    simp [h]
  · cases may
    · (refine goS ?_ <;> repeat (intro _ <;> refine goS ?_))
      refine ret_now _ ?_
      simp [h]
    · (refine goS ?_ <;> repeat (intro _ <;> refine goS ?_))
      refine Pure.call (in_p n 0 m) ?_ <;> (refine goS ?_ <;> repeat (intro _ <;> refine goS ?_))
      refine ret_now _ ?_
      simp [h]
theorem from19_p (n a : Int) : Pure Tryz.prog 189 [I n, I a] (B (decide (0 ≤ n ∧ n ≤ a))) := by
  refine Pure.ev Tryz.f189 mx Tryz.func189 (by kernel_rfl) rfl rfl rfl ?_ <;> (refine goS ?_ <;> repeat (intro _ <;> refine goS ?_))
  refine onB_mk (fun h => ?_) (fun h => ?_) <;> (try rw [h]) <;> (try simp only [decide_eq_true_eq, decide_eq_false_iff_not, beq_iff_eq, beq_eq_false_iff_ne, bne_iff_ne, bne_eq_false_iff_eq, ne_eq, Int.not_lt, Int.not_le, gt_iff_lt, ge_iff_le, Int.ofNat_lt, Int.natCast_inj] at h) <;> (refine goS ?_ <;> repeat (intro _ <;> refine goS ?_)) <;> try refine onB_mk (fun h => ?_) (fun h => ?_) <;> (try rw [h]) <;> (try simp only [decide_eq_true_eq, decide_eq_false_iff_not, beq_iff_eq, beq_eq_false_iff_ne, bne_iff_ne, bne_eq_false_iff_eq, ne_eq, Int.not_lt, Int.not_le, gt_iff_lt, ge_iff_le, Int.ofNat_lt, Int.natCast_inj] at h) <;> (refine goS ?_ <;> repeat (intro _ <;> refine goS ?_))
  all_goals (refine ret_now _ ?_; congr 2; simp; omega)
theorem tick_p (n : Int) : Pure Tryz.prog 220 [I n] (B (decide (0 ≤ n ∧ n ≤ 1099511627776))) := by
  refine Pure.ev Tryz.f220 mx Tryz.func220 (by kernel_rfl) rfl rfl rfl ?_ <;> (refine goS ?_ <;> repeat (intro _ <;> refine goS ?_))
  refine onB_mk (fun h => ?_) (fun h => ?_) <;> (try rw [h]) <;> (try simp only [decide_eq_true_eq, decide_eq_false_iff_not, beq_iff_eq, beq_eq_false_iff_ne, bne_iff_ne, bne_eq_false_iff_eq, ne_eq, Int.not_lt, Int.not_le, gt_iff_lt, ge_iff_le, Int.ofNat_lt, Int.natCast_inj] at h) <;> (refine goS ?_ <;> repeat (intro _ <;> refine goS ?_)) <;> try refine onB_mk (fun h => ?_) (fun h => ?_) <;> (try rw [h]) <;> (try simp only [decide_eq_true_eq, decide_eq_false_iff_not, beq_iff_eq, beq_eq_false_iff_ne, bne_iff_ne, bne_eq_false_iff_eq, ne_eq, Int.not_lt, Int.not_le, gt_iff_lt, ge_iff_le, Int.ofNat_lt, Int.natCast_inj] at h) <;> (refine goS ?_ <;> repeat (intro _ <;> refine goS ?_))
  all_goals (refine ret_now _ ?_; congr 2; simp; omega)
def goodAt (l : List Int) (j : Nat) : Prop := (0 ≤ l.getD j 0 ∧ l.getD j 0 ≤ 1099511627776) ∧ (0 < j → l.getD (j - 1) 0 ≤ l.getD j 0)
def scan (l : List Int) : Nat → Nat → Int
  | 0, _ => 0
  | n + 1, k => if ¬ (0 ≤ l.getD k 0 ∧ l.getD k 0 ≤ 1099511627776) then 3 else if 0 < k ∧ l.getD k 0 < l.getD (k - 1) 0 then 13 else scan l n (k + 1)
theorem scan_zero (l : List Int) : ∀ n k, scan l n k = 0 ↔ ∀ j, k ≤ j → j < k + n → goodAt l j
  | 0, k => ⟨fun _ j h1 h2 => by omega, fun _ => rfl⟩
  | n + 1, k => by
    unfold scan
    by_cases c : 0 ≤ l.getD k 0 ∧ l.getD k 0 ≤ 1099511627776
    · rw [if_neg (not_not_intro c)]
      by_cases d : 0 < k ∧ l.getD k 0 < l.getD (k - 1) 0
      · rw [if_pos d]
        exact ⟨fun h => absurd h (by decide), fun h => by have := (h k (Nat.le_refl _) (by omega)).2 d.1; omega⟩
      · rw [if_neg d, scan_zero l n (k + 1)]
        refine ⟨fun h j h1 h2 => ?_, fun h j h1 h2 => h j (by omega) (by omega)⟩
        rcases Nat.eq_or_lt_of_le h1 with rfl | h3
        · exact ⟨c, fun h4 => by omega⟩
        · exact h j h3 (by omega)
    · rw [if_pos c]
      exact ⟨fun h => absurd h (by decide), fun h => absurd (h k (Nat.le_refl _) (by omega)).1 c⟩
theorem wrapP {n : Nat} (h0 : 0 < n) (h : n < 9223372036854775807) : IntKind.i64.wrap ((n : Int) - 1) = ((n - 1 : Nat) : Int) := by
  unfold IntKind.wrap IntKind.signed IntKind.bits; simp; omega
theorem starts_p (l : List Int) : Pure Tryz.prog 190 [slI l] (I (scan l l.length 0)) := by
  refine Pure.ev Tryz.f190 mx Tryz.func190 (by kernel_rfl) rfl rfl rfl ?_ <;> (refine goS ?_ <;> repeat (intro _ <;> refine goS ?_))
  refine loop_st (S := Nat) (fun k => [(0, slI l), (3, I k)]) (fun _ => ⟨0, []⟩) (fun k => k ≤ l.length ∧ scan l l.length 0 = scan l (l.length - k) k) (fun k => l.length - k) 0
    (Wk.sub ⟨rfl, rfl, trivial⟩) ⟨Nat.zero_le _, rfl⟩ ?_
  rintro k ⟨hk, hs⟩
  (refine goS ?_ <;> repeat (intro _ <;> refine goS ?_))
  refine onB_mk (fun h => ?_) (fun h => ?_) <;> (try rw [h]) <;> (try simp only [decide_eq_true_eq, decide_eq_false_iff_not, beq_iff_eq, beq_eq_false_iff_ne, bne_iff_ne, bne_eq_false_iff_eq, ne_eq, Int.not_lt, Int.not_le, gt_iff_lt, ge_iff_le, Int.ofNat_lt, Int.natCast_inj] at h) <;> (refine goS ?_ <;> repeat (intro _ <;> refine goS ?_))
  · refine Pure.call (tick_p _) ?_ <;> (refine goS ?_ <;> repeat (intro _ <;> refine goS ?_))
    refine onB_mk (fun h => ?_) (fun h => ?_) <;> (try rw [h]) <;> (try simp [-List.getD_eq_getElem?_getD, wl, List.getD_cons_zero, List.getD_cons_succ] at h) <;> (refine goS ?_ <;> repeat (intro _ <;> refine goS ?_))
    · refine ret_now _ ?_
      rw [hs, show l.length - k = (l.length - (k + 1)) + 1 by omega]
      unfold scan
      rw [if_pos (by intro hh; omega)]
    · have hc : 0 ≤ l.getD k 0 ∧ l.getD k 0 ≤ 1099511627776 := h
      have hw : ∀ m, ((m : Nat) : Int).toNat = m := fun m => Int.toNat_natCast m
      have hnext : ¬ (0 < k ∧ l.getD k 0 < l.getD (k - 1) 0) → k + 1 ≤ l.length ∧ scan l l.length 0 = scan l (l.length - (k + 1)) (k + 1) := fun hn => by
        refine ⟨by omega, ?_⟩
        rw [hs, show l.length - k = (l.length - (k + 1)) + 1 by omega]
        show scan l (l.length - (k + 1) + 1) k = _
        conv => lhs; unfold scan
        rw [if_neg (not_not_intro hc), if_neg hn]
      refine onB_mk (fun h => ?_) (fun h => ?_) <;> (try rw [h]) <;> (try simp only [decide_eq_true_eq, decide_eq_false_iff_not, beq_iff_eq, beq_eq_false_iff_ne, bne_iff_ne, bne_eq_false_iff_eq, ne_eq, Int.not_lt, Int.not_le, gt_iff_lt, ge_iff_le, Int.ofNat_lt, Int.natCast_inj] at h) <;> (refine goS ?_ <;> repeat (intro _ <;> refine goS ?_))
      · rw [wrapP (by omega) (by omega)]
        (refine goS ?_ <;> repeat (intro _ <;> refine goS ?_))
        refine onB_mk (fun h => ?_) (fun h => ?_) <;> (try rw [h]) <;> (try simp only [decide_eq_true_eq, decide_eq_false_iff_not, beq_iff_eq, beq_eq_false_iff_ne, bne_iff_ne, bne_eq_false_iff_eq, ne_eq, Int.not_lt, Int.not_le, gt_iff_lt, ge_iff_le, Int.ofNat_lt, Int.natCast_inj] at h) <;> (refine goS ?_ <;> repeat (intro _ <;> refine goS ?_))
        · simp only [hw] at h
          refine ret_now _ ?_
          rw [hs, show l.length - k = (l.length - (k + 1)) + 1 by omega]
          unfold scan
          rw [if_neg (not_not_intro hc), if_pos ⟨by omega, h⟩]
        · rw [hw, hw] at h
          exact ⟨k + 1, by omega, hnext (by omega), Wk.sub ⟨rfl, by simp only [← wrapS (show k < 9223372036854775807 by omega)]; rfl, trivial⟩⟩
      · exact ⟨k + 1, by omega, hnext (by omega), Wk.sub ⟨rfl, by simp only [← wrapS (show k < 9223372036854775807 by omega)]; rfl, trivial⟩⟩
  · refine ret_now _ ?_
    rw [hs, show l.length - k = 0 by omega]; rfl
end Go.Proofs.YtdblhmpcilihnaaGreat
