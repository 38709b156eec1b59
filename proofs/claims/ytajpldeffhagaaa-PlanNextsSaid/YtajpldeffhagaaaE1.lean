/- The kit's copies and comparisons of the law packages: contracts by the engine. -/
import Derived.Test.YtajpldeffhagaaaEncData
namespace Go.Proofs.Ytajpldeffhagaaa
open Go.RowKit E
set_option maxRecDepth 100000
set_option linter.unusedVariables false
theorem mx : Try.prog.follows .mixedOrders = true := by kernel_rfl
abbrev I (n : Int) : AV := .val (.int .i64 n)
abbrev U8 (n : Int) : AV := .val (.int .u8 n)
abbrev B (b : Bool) : AV := .val (.bool b)
abbrev slI (l : List Int) : AV := .sl 1 l.length fun i => [.val (.int .i64 (l.getD i 0))]
theorem ret_fz {n0 : Nat} {x x1 : AV} {H : Hp} {K : AV → Hp → Prop} {blk : Blk} (id : Nat) (hg : H.get id = some blk) (hx : FzR id blk 4 x x1) (hk : ∀ H1, K x1 H1) : ∃ x1 H1, Wk n0 [(0, x)] H [(0, x1)] H1 ∧ K x1 H1 :=
  have h : Wk n0 [(0, x)] H ((0, x1) :: [(0, x)]) (H.set id none) := Wk.freeze (fr := [(0, x)]) (t := 0) hg hx
  ⟨x1, _, h.trans (Wk.sub ⟨rfl, trivial⟩), hk _⟩
theorem ret_fsl {n0 id sz off len cap n : Nat} {ex : Bool} {f : Nat → List FV} {rows : List (List AV)} {mp : Option MB} {H : Hp} {K : AV → Hp → Prop} (hg : H.get id = some ⟨sz, rows, mp⟩) (hk : ∀ H1, K (.sl sz n f) H1) (hn : len = n)
    (hx : ∀ i, i < n → rows[off + i]? = some ((f i).map FV.up)) : ∃ x1 H1, Wk n0 [(0, .hsl id sz off len cap ex)] H [(0, x1)] H1 ∧ K x1 H1 := by
  subst hn
  exact ret_fz (x1 := .sl sz len f) id hg (by unfold FzR; exact ⟨⟨⟨rfl, rfl⟩, rfl, rfl⟩, hx⟩) hk
theorem wrapS {n : Nat} (h : n < 9223372036854775807) : IntKind.i64.wrap ((n : Int) + 1) = ((n + 1 : Nat) : Int) := by
  unfold IntKind.wrap IntKind.signed IntKind.bits; simp; omega
theorem oneRows_of {X : List (List AV)} (h : (X.all fun r => r.all AV.one) = true) : oneRows X := fun row hr y hy => List.all_eq_true.1 (List.all_eq_true.1 h row hr) y hy
theorem free_up (l : List FV) : freeL (l.map FV.up) = true := by
  induction l with
  | nil => rfl
  | cons a l ih => show (freeN 5 a.up && freeL (l.map FV.up)) = true; rw [ih]; cases a <;> rfl
theorem free_rows {n : Nat} {f : Nat → List FV} : ∀ row ∈ (List.range n).map (fun i => (f i).map FV.up), freeL row = true := fun row h => by
  obtain ⟨i, _, rfl⟩ := List.mem_map.1 h
  exact free_up _
theorem inj1 {k : Nat} {ρ : Nat → Nat} : ∀ a ∈ [k], ∀ b ∈ [k], ρ a = ρ b → a = b := fun a ha b hb _ => by rw [List.mem_singleton.1 ha, List.mem_singleton.1 hb]
theorem copyInts_p (l : List Int) (hl : l.length ≤ 1000000) : Pure Try.prog 20 [slI l] (slI l) := by
  refine Pure.ev Try.f20 mx Try.func20 (by kernel_rfl) rfl rfl rfl ?_ <;> (conv => whnf) <;> repeat (first | (refine And.intro trivial ?_ <;> (conv => whnf)) | (refine And.intro (And.intro (by omega) (by omega)) ?_ <;> (conv => whnf)) | (refine And.intro (by omega) ?_ <;> (conv => whnf)) | (intro _ <;> (conv => whnf)))
  refine ⟨by rw [List.length_map, List.length_range]; show l.length * 8 ≤ _; omega, ?_⟩
  conv => whnf
  exact ret_fsl rfl (fun _ => rfl) (by simp) fun i hi => by simp [hi]
theorem copyTaskSpecs_p (l : List TaskSpec) (hl : l.length ≤ 1000000) : Pure Try.prog 87 [.sl 6 l.length fun i => TaskSpec.fv (l.getD i default)] (.sl 6 l.length fun i => TaskSpec.fv (l.getD i default)) := by
  refine Pure.ev Try.f87 mx Try.func87 (by kernel_rfl) rfl rfl rfl ?_ <;> (conv => whnf) <;> repeat (first | (refine And.intro trivial ?_ <;> (conv => whnf)) | (refine And.intro (And.intro (by omega) (by omega)) ?_ <;> (conv => whnf)) | (refine And.intro (by omega) ?_ <;> (conv => whnf)) | (intro _ <;> (conv => whnf)))
  refine ⟨by rw [List.length_map, List.length_range]; show l.length * 48 ≤ _; omega, ?_⟩
  conv => whnf
  exact ret_fsl rfl (fun _ => rfl) (by simp) fun i hi => by simp [hi]
theorem copyTask_p (t : Task) (hl : t.starts.length ≤ 1000000) : Pure Try.prog 7 [t.av] t.av := by
  refine Pure.ev Try.f7 mx Try.func7 (by kernel_rfl) rfl rfl rfl ?_ <;> (conv => whnf) <;> repeat (first | (refine And.intro trivial ?_ <;> (conv => whnf)) | (refine And.intro (And.intro (by omega) (by omega)) ?_ <;> (conv => whnf)) | (refine And.intro (by omega) ?_ <;> (conv => whnf)) | (intro _ <;> (conv => whnf)))
  refine Pure.call (copyInts_p t.starts hl) ?_ <;> (conv => whnf) <;> repeat (first | (refine And.intro trivial ?_ <;> (conv => whnf)) | (refine And.intro (And.intro (by omega) (by omega)) ?_ <;> (conv => whnf)) | (refine And.intro (by omega) ?_ <;> (conv => whnf)) | (intro _ <;> (conv => whnf)))
  exact ret_now _ rfl
theorem copyTasks_p (l : List Task) (hl : l.length ≤ 1000) (hs : ∀ i, (l.getD i default).starts.length ≤ 1000000) : Pure Try.prog 58 [.sl 8 l.length fun i => Task.fv (l.getD i default)] (.sl 8 l.length fun i => Task.fv (l.getD i default)) := by
  refine Pure.ev Try.f58 mx Try.func58 (by kernel_rfl) rfl rfl rfl ?_ <;> (conv => whnf) <;> repeat (first | (refine And.intro trivial ?_ <;> (conv => whnf)) | (refine And.intro (And.intro (by omega) (by omega)) ?_ <;> (conv => whnf)) | (refine And.intro (by omega) ?_ <;> (conv => whnf)) | (intro _ <;> (conv => whnf)))
  refine loop_st (S := Nat) (fun k => [(0, .sl 8 l.length fun i => Task.fv (l.getD i default)), (3, .hsl 0 8 0 k k false), (4, I k)]) (fun k => ⟨1, [(0, some ⟨8, (List.range k).map fun i => (Task.fv (l.getD i default)).map FV.up, none⟩)]⟩)
    (fun k => k ≤ l.length) (fun k => l.length - k) 0 ((Wk.phantom 3 8 rfl).trans (Wk.sub ⟨rfl, rfl, rfl, trivial⟩)) (Nat.zero_le _) ?_
  intro k hk
  (conv => whnf) <;> repeat (first | (refine And.intro trivial ?_ <;> (conv => whnf)) | (refine And.intro (And.intro (by omega) (by omega)) ?_ <;> (conv => whnf)) | (refine And.intro (by omega) ?_ <;> (conv => whnf)) | (intro _ <;> (conv => whnf)))
  refine onB_mk (fun h => ?_) (fun h => ?_) <;> (simp at h) <;> (conv => whnf) <;> repeat (first | (refine And.intro trivial ?_ <;> (conv => whnf)) | (refine And.intro (And.intro (by omega) (by omega)) ?_ <;> (conv => whnf)) | (refine And.intro (by omega) ?_ <;> (conv => whnf)) | (intro _ <;> (conv => whnf)))
  · refine Pure.call (copyTask_p (l.getD k default) (hs k)) ?_ <;> (conv => whnf) <;> repeat (first | (refine And.intro trivial ?_ <;> (conv => whnf)) | (refine And.intro (And.intro (by omega) (by omega)) ?_ <;> (conv => whnf)) | (refine And.intro (by omega) ?_ <;> (conv => whnf)) | (intro _ <;> (conv => whnf)))
    have hh : 0 + k = ((List.range k).map fun i => (Task.fv (l.getD i default)).map FV.up).length ∧ oneRows [(Task.fv (l.getD k default)).map FV.up] ∧ (k + 1) * 80 ≤ 140737488355328 := ⟨by simp, oneRows_of rfl, by omega⟩
    refine And.intro hh ?_ <;> (conv => whnf) <;> repeat (first | (refine And.intro trivial ?_ <;> (conv => whnf)) | (refine And.intro (And.intro (by omega) (by omega)) ?_ <;> (conv => whnf)) | (refine And.intro (by omega) ?_ <;> (conv => whnf)) | (intro _ <;> (conv => whnf)))
    exact ⟨k + 1, by omega, h, Wk.re (fun _ => 2) rfl (nofun) inj1 ⟨⟨rfl, rfl⟩, ⟨rfl, rfl⟩, ⟨by simp only [← wrapS (show k < 9223372036854775807 by omega)]; rfl, rfl⟩, trivial⟩
      ⟨⟨rfl, _, rfl, .inl ⟨by rw [List.range_succ, List.map_append]; rfl, free_rows⟩, nofun⟩, trivial⟩⟩
  · exact ret_fsl rfl (fun _ => rfl) (by omega) fun i hi => by simp [show i < k by omega]
end Go.Proofs.Ytajpldeffhagaaa
