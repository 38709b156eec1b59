/- The example of the chapter, and that the law is awake. What the given data's bounds say of a state's tasks. -/
import Derived.Test.YtdblhmpcilihnaaGreatMM
import Derived.Test.YtdblhmpcilihnaaGreatM3
import Derived.WalkKit
import Derived.ProofKit
namespace Go.Proofs.YtdblhmpcilihnaaGreat
open Go.RowKit E Go.ChangeShapes Go.WideShapes Go.ChangeAt
set_option maxRecDepth 100000
set_option linter.unusedVariables false
set_option linter.unusedSimpArgs false
def exP : Policy := ⟨false, 2, 20, 2, 8⟩
def exT0 : Task := ⟨2, 3, 4, 3, 0, 0, 0, [5]⟩
def exT1 : Task := ⟨6, 2, 0, 0, 0, 0, 0, [4]⟩
def exA : Alloc := ⟨⟨7, ⟨4, 4, 4⟩, [80], [⟨exP, 0⟩, ⟨exP, 0⟩]⟩, 1, 0, false, [exT0, exT1]⟩
def exS : State := ⟨1, 4, 2, 5, [exA]⟩
def exX : AV := .agg [I 1, I 4, I 2, I 5, .hsl 8 10 0 1 1 true]
def tRow (t : Task) (b : AV) : List AV := [U8 t.state, I t.inc, I t.pid, I t.nonce, I t.due, I t.until_, I t.code, b]
def aRow (p q r : AV) : List AV := [I 7, I 4, I 4, I 4, p, q, I 1, I 0, B false, r]
abbrev h2 : AV := .hsl 2 1 0 1 1 true
abbrev h3 : AV := .hsl 3 1 0 1 1 true
abbrev h4 : AV := .hsl 4 8 0 2 2 true
abbrev h5 : AV := .hsl 5 1 0 1 1 true
abbrev h6 : AV := .hsl 6 6 0 2 2 true
abbrev f6 : AV := .sl 6 2 fun i => TaskSpec.fv (exA.spec.tasks.getD i default)
abbrev f4 : AV := .sl 8 2 fun i => Task.fv (exA.tasks.getD i default)
abbrev b8 (p q r : AV) : E.Blk := ⟨10, [aRow p q r], none⟩
abbrev b6 : E.Blk := ⟨6, [(TaskSpec.fv ⟨exP, 0⟩).map FV.up, (TaskSpec.fv ⟨exP, 0⟩).map FV.up], none⟩
abbrev b5 : E.Blk := ⟨1, [[I 80]], none⟩
abbrev b4 (p q : AV) : E.Blk := ⟨8, [tRow exT0 p, tRow exT1 q], none⟩
abbrev b3 : E.Blk := ⟨1, [[I 4]], none⟩
abbrev b2 : E.Blk := ⟨1, [[I 5]], none⟩
theorem example_p : Pure Tryz.prog 75 [] exS.av := by
  refine Pure.ev Tryz.f75 mx Tryz.func75 (by kernel_rfl) rfl rfl rfl ?_ <;> (refine goS ?_ <;> repeat (intro _ <;> refine goS ?_))
  have c0 : ∀ {n : Nat} {H : Hp}, H.next = 9 → Nat.ble n 9 = true → H.get 8 = some (b8 h5 h6 h4) → H.get 6 = some b6 → H.get 5 = some b5 → H.get 4 = some (b4 h2 h3) → H.get 3 = some b3 → H.get 2 = some b2 →
      Wk n [(0, exX)] H [(0, exX)] ⟨9, [(8, some (b8 h5 h6 h4)), (6, some b6), (5, some b5), (4, some (b4 h2 h3)), (3, some b3), (2, some b2)]⟩ := fun hn hb h8 h6 h5 h4 h3 h2 =>
    Wk.cut hb ⟨⟨rfl, rfl⟩, trivial⟩ ⟨⟨h8, rfl, row1 rfl, nofun⟩, ⟨h6, rfl, fun row hr => by simp at hr; rw [hr]; rfl, nofun⟩, ⟨h5, rfl, row1 rfl, nofun⟩, ⟨h4, rfl, fun row hr => by simp at hr; rcases hr with rfl | rfl <;> rfl, nofun⟩, ⟨h3, rfl, row1 rfl, nofun⟩, ⟨h2, rfl, row1 rfl, nofun⟩, trivial⟩
  have c1 : Wk 0 [(0, exX)] ⟨9, [(8, some (b8 h5 h6 h4)), (6, some b6), (5, some b5), (4, some (b4 h2 h3)), (3, some b3), (2, some b2)]⟩ [(0, exX)] ⟨9, [(8, some (b8 h5 h6 h4)), (6, some b6), (5, some b5), (4, some (b4 (slI [5]) h3)), (3, some b3)]⟩ :=
    Wk.fzH (id := 2) (blk := b2) rfl (by repeat' (first | exact rfl | exact trivial | exact Or.inl rfl | (refine And.intro ?_ ?_) | (intro i hi; (rcases i with _ | _ | i) <;> first | exact rfl | (exfalso; omega)))) (by
      refine ⟨⟨rfl, _, rfl, .inl rfl⟩, ⟨rfl, _, rfl, .inl rfl⟩, ⟨rfl, _, rfl, .inl rfl⟩, ⟨rfl, _, rfl, .inr ⟨rfl, rfl, rfl, ?_⟩⟩, ⟨rfl, _, rfl, .inl rfl⟩, trivial⟩
      repeat' (first | exact rfl | exact trivial | exact Or.inl rfl | (refine And.intro ?_ ?_) | (intro i hi; (rcases i with _ | _ | i) <;> first | exact rfl | (exfalso; omega))))
  have c2 : Wk 0 [(0, exX)] ⟨9, [(8, some (b8 h5 h6 h4)), (6, some b6), (5, some b5), (4, some (b4 (slI [5]) h3)), (3, some b3)]⟩ [(0, exX)] ⟨9, [(8, some (b8 h5 h6 h4)), (6, some b6), (5, some b5), (4, some (b4 (slI [5]) (slI [4])))]⟩ :=
    Wk.fzH (id := 3) (blk := b3) rfl (by repeat' (first | exact rfl | exact trivial | exact Or.inl rfl | (refine And.intro ?_ ?_) | (intro i hi; (rcases i with _ | _ | i) <;> first | exact rfl | (exfalso; omega)))) (by
      refine ⟨⟨rfl, _, rfl, .inl rfl⟩, ⟨rfl, _, rfl, .inl rfl⟩, ⟨rfl, _, rfl, .inl rfl⟩, ⟨rfl, _, rfl, .inr ⟨rfl, rfl, rfl, ?_⟩⟩, trivial⟩
      repeat' (first | exact rfl | exact trivial | exact Or.inl rfl | (refine And.intro ?_ ?_) | (intro i hi; (rcases i with _ | _ | i) <;> first | exact rfl | (exfalso; omega))))
  have c3 : Wk 0 [(0, exX)] ⟨9, [(8, some (b8 h5 h6 h4)), (6, some b6), (5, some b5), (4, some (b4 (slI [5]) (slI [4])))]⟩ [(0, exX)] ⟨9, [(8, some (b8 (slI [80]) h6 h4)), (6, some b6), (4, some (b4 (slI [5]) (slI [4])))]⟩ :=
    Wk.fzH (id := 5) (blk := b5) rfl (by repeat' (first | exact rfl | exact trivial | exact Or.inl rfl | (refine And.intro ?_ ?_) | (intro i hi; (rcases i with _ | _ | i) <;> first | exact rfl | (exfalso; omega)))) (by
      refine ⟨⟨rfl, _, rfl, .inr ⟨rfl, rfl, rfl, ?_⟩⟩, ⟨rfl, _, rfl, .inl rfl⟩, ⟨rfl, _, rfl, .inl rfl⟩, trivial⟩
      repeat' (first | exact rfl | exact trivial | exact Or.inl rfl | (refine And.intro ?_ ?_) | (intro i hi; (rcases i with _ | _ | i) <;> first | exact rfl | (exfalso; omega))))
  have c4 : Wk 0 [(0, exX)] ⟨9, [(8, some (b8 (slI [80]) h6 h4)), (6, some b6), (4, some (b4 (slI [5]) (slI [4])))]⟩ [(0, exX)] ⟨9, [(8, some (b8 (slI [80]) f6 h4)), (4, some (b4 (slI [5]) (slI [4])))]⟩ :=
    Wk.fzH (id := 6) (blk := b6) rfl (by repeat' (first | exact rfl | exact trivial | exact Or.inl rfl | (refine And.intro ?_ ?_) | (intro i hi; (rcases i with _ | _ | i) <;> first | exact rfl | (exfalso; omega)))) (by
      refine ⟨⟨rfl, _, rfl, .inr ⟨rfl, rfl, rfl, ?_⟩⟩, ⟨rfl, _, rfl, .inl rfl⟩, trivial⟩
      repeat' (first | exact rfl | exact trivial | exact Or.inl rfl | (refine And.intro ?_ ?_) | (intro i hi; (rcases i with _ | _ | i) <;> first | exact rfl | (exfalso; omega))))
  have c5 : Wk 0 [(0, exX)] ⟨9, [(8, some (b8 (slI [80]) f6 h4)), (4, some (b4 (slI [5]) (slI [4])))]⟩ [(0, exX)] ⟨9, [(8, some (b8 (slI [80]) f6 f4))]⟩ :=
    Wk.fzH (id := 4) (blk := b4 (slI [5]) (slI [4])) rfl (by repeat' (first | exact rfl | exact trivial | exact Or.inl rfl | (refine And.intro ?_ ?_) | (intro i hi; (rcases i with _ | _ | i) <;> first | exact rfl | (exfalso; omega)))) (by
      refine ⟨⟨rfl, _, rfl, .inr ⟨rfl, rfl, rfl, ?_⟩⟩, trivial⟩
      repeat' (first | exact rfl | exact trivial | exact Or.inl rfl | (refine And.intro ?_ ?_) | (intro i hi; (rcases i with _ | _ | i) <;> first | exact rfl | (exfalso; omega))))
  have c6 : Wk 0 [(0, exX)] ⟨9, [(8, some (b8 (slI [80]) f6 f4))]⟩ [(0, exS.av)] ⟨9, []⟩ :=
    Wk.fzH (id := 8) (blk := b8 (slI [80]) f6 f4) rfl (by repeat' (first | exact rfl | exact trivial | exact Or.inl rfl | (refine And.intro ?_ ?_) | (intro i hi; (rcases i with _ | _ | i) <;> first | exact rfl | (exfalso; omega)))) trivial
  exact ⟨_, _, (c0 rfl rfl rfl rfl rfl rfl rfl rfl).trans (c1.trans (c2.trans (c3.trans (c4.trans (c5.trans c6))))), rfl⟩
theorem token_p (t i : Int) : Pure Tryz.prog 76 [I t, I i] (Token.av ⟨7, t, i⟩) := by
  refine Pure.ev Tryz.f76 mx Tryz.func76 (by kernel_rfl) rfl rfl rfl ?_ <;> (refine goS ?_ <;> repeat (intro _ <;> refine goS ?_))
  exact ret_now _ rfl
theorem exCur : curOk exS ⟨7, 0, 3⟩ := ⟨by decide, by decide, by decide, .inr (.inl rfl), rfl⟩
theorem awake30_p : Pure Tryz.prog 38 [] (B true) := by
  have hC := current_p exS ⟨7, 0, 3⟩
  have hA : curA exS ⟨7, 0, 3⟩ = .tup [I 0, I 0, B true] := by unfold curA; rw [curB_y exCur]; rfl
  rw [hA] at hC
  refine Pure.ev Tryz.f38 mx Tryz.func38 (by kernel_rfl) rfl rfl rfl ?_ <;> (refine goS ?_ <;> repeat (intro _ <;> refine goS ?_))
  (first | refine Pure.call (example_p) ?_ | refine HCall.pure (example_p) ?_) <;> (refine goS ?_ <;> repeat (intro _ <;> refine goS ?_))
  (first | refine Pure.call (token_p 0 3) ?_ | refine HCall.pure (token_p 0 3) ?_) <;> (refine goS ?_ <;> repeat (intro _ <;> refine goS ?_))
  (first | refine Pure.call (hC) ?_ | refine HCall.pure (hC) ?_) <;> (refine goS ?_ <;> repeat (intro _ <;> refine goS ?_))
  exact ret_now _ rfl
theorem wfS_of {s : State} (h : State.kn.Wf s) : s.wfS := fun i j => by
  have h1 : ∀ a ∈ s.allocs, Alloc.kn.Wf a := h.2.2.2.2.2
  by_cases hi : i < s.allocs.length
  · have e : s.allocs.getD i default = s.allocs[i] := by simp [List.getD_eq_getElem?_getD, hi]
    have h2 := h1 _ (List.getElem_mem hi)
    rw [e]
    have h3 : ∀ t ∈ (s.allocs[i]).tasks, Task.kn.Wf t := h2.2.2.2.2.2
    by_cases hj : j < (s.allocs[i]).tasks.length
    · have e2 : (s.allocs[i]).tasks.getD j default = (s.allocs[i]).tasks[j] := by simp [List.getD_eq_getElem?_getD, hj]
      rw [e2]
      exact (bounds_u8 (h3 _ (List.getElem_mem hj)).1).1
    · rw [List.getD_eq_getElem?_getD, List.getElem?_eq_none (by omega)]; exact Int.le_refl _
  · have e : s.allocs.getD i default = default := by rw [List.getD_eq_getElem?_getD, List.getElem?_eq_none (by omega)]; rfl
    rw [e]
    show 0 ≤ (([] : List Task).getD j default).state
    rw [List.getD_eq_getElem?_getD]
    simp
    exact Int.le_refl _
end Go.Proofs.YtdblhmpcilihnaaGreat
