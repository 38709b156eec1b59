/- StateNames, walked. -/
import Derived.Test.YtdblhmpcilihnaaGreatL3
namespace Go.Proofs.YtdblhmpcilihnaaGreat
open Go.RowKit E
set_option maxRecDepth 100000
set_option linter.unusedVariables false
set_option linter.unusedSimpArgs false
def posC (s : State) : Bool := s.allocs.all fun a => a.tasks.all fun t => decide (0 ≤ t.state)
theorem posC_ok {s : State} (h : posC s = true) : s.wfS := pos_iff.1 fun a ha t ht => by
  unfold posC at h
  have := List.all_eq_true.1 (List.all_eq_true.1 h a ha) t ht
  exact of_decide_eq_true this
abbrev exTs : List TaskSpec := [⟨⟨false, 2, 20, 2, 8⟩, 0⟩]
def exAck : State := ⟨1, 1, 2, 0, [⟨exSeven, 1, 0, false, [⟨0, 0, 0, 0, 0, 0, 0, []⟩]⟩]⟩
def exTwo : State := ⟨1, 1, 3, -1, [⟨exSeven, 1, 0, false, [⟨0, 0, 0, 0, 0, 0, 0, []⟩]⟩, ⟨⟨8, ⟨4, 6, 4⟩, [], exTs⟩, 2, 1, false, [⟨0, 0, 0, 0, 0, 0, 0, []⟩]⟩]⟩
def exLast : State := ⟨1, 1099511627776, 1099511627776, -1, [⟨exSeven, 1, 0, false, [⟨0, 0, 0, 0, 0, 0, 0, []⟩]⟩]⟩
def exC0 : Config := ⟨⟨0, 0, 0⟩, 0, 0, 0, 0, 0, 0, 0, 0⟩
theorem nb1 : applyF exC exS1 ⟨4, 0, zSp, 7, 1, 0, 0, 0, 0, 0⟩ = (3, zS) := by rw [applyC_eq]; kernel_rfl
theorem nb2 : applyF exC exS1 ⟨4, 0, zSp, 9, 0, 0, 0, 0, 0, 0⟩ = (6, zS) := by rw [applyC_eq]; kernel_rfl
theorem nb3 : applyF exC exS1 ⟨5, 0, zSp, 7, 0, 0, 0, 0, 0, 0⟩ = (7, zS) := by rw [applyC_eq]; kernel_rfl
theorem nb4 : applyF exC exS1 ⟨9, 0, zSp, 0, 0, 0, 0, 0, 0, 0⟩ = (0, exAck) := by rw [applyC_eq]; kernel_rfl
theorem nb5 : applyF exC exAck ⟨9, 0, zSp, 0, 0, 0, 0, 0, 0, 0⟩ = (7, zS) := by rw [applyC_eq]; kernel_rfl
theorem nb6 : applyF exC exS1 ⟨9, 0, zSp, 1, 0, 0, 0, 0, 0, 0⟩ = (2, zS) := by rw [applyC_eq]; kernel_rfl
theorem nb7 : applyF exC zS ⟨9, 0, zSp, 0, 0, 0, 0, 0, 0, 0⟩ = (2, zS) := by rw [applyC_eq]; kernel_rfl
theorem nb8 : applyF exC0 exS1 ⟨9, 0, zSp, 0, 0, 0, 0, 0, 0, 0⟩ = (3, zS) := by rw [applyC_eq]; kernel_rfl
theorem nb9 : applyF exC exS1 ⟨1, 1, ⟨8, ⟨4, 7, 4⟩, [], exTs⟩, 0, 0, 0, 0, 0, 0, 0⟩ = (9, zS) := by rw [applyC_eq]; kernel_rfl
theorem nb10 : applyF exC exS1 ⟨1, 1, ⟨8, ⟨4, 6, 4⟩, [], exTs⟩, 0, 0, 0, 0, 0, 0, 0⟩ = (0, exTwo) := by rw [applyC_eq]; kernel_rfl
theorem nb11 : applyF exC exTwo ⟨1, 1, ⟨9, ⟨0, 0, 0⟩, [], exTs⟩, 0, 0, 0, 0, 0, 0, 0⟩ = (9, zS) := by rw [applyC_eq]; kernel_rfl
theorem nb12 : applyF exC exLast ⟨4, 0, zSp, 7, 0, 0, 0, 0, 0, 0⟩ = (3, zS) := by rw [applyC_eq]; kernel_rfl
theorem nb13 : applyF exC exLast ⟨1, 1, ⟨3, ⟨0, 0, 0⟩, [], exTs⟩, 0, 0, 0, 0, 0, 0, 0⟩ = (3, zS) := by rw [applyC_eq]; kernel_rfl
theorem st_ack : stE exC exAck = 0 := by rw [stEC_eq]; kernel_rfl
theorem st_two : stE exC exTwo = 0 := by rw [stEC_eq]; kernel_rfl
theorem st_last : stE exC exLast = 0 := by rw [stEC_eq]; kernel_rfl
theorem few_z : zS.few := ⟨Nat.zero_le _, fun i => ⟨by rw [show zS.allocs = [] from rfl, List.getD_nil]; exact Nat.zero_le _, by rw [show zS.allocs = [] from rfl, List.getD_nil]; exact Nat.zero_le _, by rw [show zS.allocs = [] from rfl, List.getD_nil]; exact Nat.zero_le _, fun k => by rw [show zS.allocs = [] from rfl, List.getD_nil]; exact Nat.zero_le _⟩⟩
set_option maxHeartbeats 8000000 in
theorem names_p : Pure Tryz.prog 3 [] (B true) := by
  have f1 := good_few good_s1.1
  have w1 := good_s1.2
  have b1 := after20_p exS1 _ _ f1 w1 (by decide) nb1
  have b2 := after20_p exS1 _ _ f1 w1 (by decide) nb2
  have b3 := after20_p exS1 _ _ f1 w1 (by decide) nb3
  have b4 := after20_p exS1 _ _ f1 w1 (by decide) nb4
  have b5 := after20_p exAck _ _ (good_few st_ack) (posC_ok rfl) (by decide) nb5
  have b6 := after20_p exS1 _ _ f1 w1 (by decide) nb6
  have b7 := after20_p zS _ _ few_z (posC_ok rfl) (by decide) nb7
  have b8 := apply_p exC0 exS1 ⟨9, 0, zSp, 0, 0, 0, 0, 0, 0, 0⟩ f1 w1 (by decide)
  rw [nb8] at b8
  have b9 := after20_p exS1 _ _ f1 w1 (by decide) nb9
  have b10 := after20_p exS1 _ _ f1 w1 (by decide) nb10
  have b11 := after20_p exTwo _ _ (good_few st_two) (posC_ok rfl) (by decide) nb11
  have b12 := after20_p exLast _ _ (good_few st_last) (posC_ok rfl) (by decide) nb12
  have b13 := after20_p exLast _ _ (good_few st_last) (posC_ok rfl) (by decide) nb13
  have hO := stateOver_p ⟨zSp, 0, 0, false, []⟩
  rw [overC_eq, show overC ⟨zSp, 0, 0, false, []⟩ = true from rfl] at hO
  have g1 : Pure Tryz.prog 14 [exS1.av, I 7] (I 0) := find_p exS1 7
  have g2 : Pure Tryz.prog 14 [exS1.av, I 0] (I (-1)) := find_p exS1 0
  have g3 : Pure Tryz.prog 14 [zS.av, I 0] (I (-1)) := find_p zS 0
  have g4 : Pure Tryz.prog 14 [exTwo.av, I 8] (I 1) := find_p exTwo 8
  refine Pure.ev Tryz.f3 mx Tryz.func3 (by kernel_rfl) rfl rfl rfl ?_ <;> (refine goS ?_ <;> repeat (intro _ <;> refine goS ?_))
  (first | refine Pure.call (placed_p) ?_ | refine HCall.pure (placed_p) ?_) <;> (refine goS ?_ <;> repeat (intro _ <;> refine goS ?_))
  (first | refine Pure.call (g1) ?_ | refine HCall.pure (g1) ?_) <;> (refine goS ?_ <;> repeat (intro _ <;> refine goS ?_))
  (first | refine Pure.call (g2) ?_ | refine HCall.pure (g2) ?_) <;> (refine goS ?_ <;> repeat (intro _ <;> refine goS ?_))
  (first | refine Pure.call (pure_nz (g3) rfl ?_) ?_ | refine HCall.pure (pure_nz (g3) rfl ?_) ?_)
  · repeat' (first | exact rfl | exact trivial | (refine And.intro ?_ ?_) | (conv => whnf))
  (refine goS ?_ <;> repeat (intro _ <;> refine goS ?_))
  (first | refine Pure.call (pure_nz (hO) rfl ?_) ?_ | refine HCall.pure (pure_nz (hO) rfl ?_) ?_)
  · repeat' (first | exact rfl | exact trivial | (refine And.intro ?_ ?_) | (conv => whnf))
  (refine goS ?_ <;> repeat (intro _ <;> refine goS ?_))
  (first | refine Pure.call (pure_nz (b1) rfl ?_) ?_ | refine HCall.pure (pure_nz (b1) rfl ?_) ?_)
  · repeat' (first | exact rfl | exact trivial | (refine And.intro ?_ ?_) | (conv => whnf))
  (refine goS ?_ <;> repeat (intro _ <;> refine goS ?_))
  (first | refine Pure.call (pure_nz (b2) rfl ?_) ?_ | refine HCall.pure (pure_nz (b2) rfl ?_) ?_)
  · repeat' (first | exact rfl | exact trivial | (refine And.intro ?_ ?_) | (conv => whnf))
  (refine goS ?_ <;> repeat (intro _ <;> refine goS ?_))
  (first | refine Pure.call (pure_nz (b3) rfl ?_) ?_ | refine HCall.pure (pure_nz (b3) rfl ?_) ?_)
  · repeat' (first | exact rfl | exact trivial | (refine And.intro ?_ ?_) | (conv => whnf))
  (refine goS ?_ <;> repeat (intro _ <;> refine goS ?_))
  (first | refine Pure.call (pure_nz (b4) rfl ?_) ?_ | refine HCall.pure (pure_nz (b4) rfl ?_) ?_)
  · repeat' (first | exact rfl | exact trivial | (refine And.intro ?_ ?_) | (conv => whnf))
  (refine goS ?_ <;> repeat (intro _ <;> refine goS ?_))
  (first | refine Pure.call (pure_nz (b5) rfl ?_) ?_ | refine HCall.pure (pure_nz (b5) rfl ?_) ?_)
  · repeat' (first | exact rfl | exact trivial | (refine And.intro ?_ ?_) | (conv => whnf))
  (refine goS ?_ <;> repeat (intro _ <;> refine goS ?_))
  (first | refine Pure.call (pure_nz (b6) rfl ?_) ?_ | refine HCall.pure (pure_nz (b6) rfl ?_) ?_)
  · repeat' (first | exact rfl | exact trivial | (refine And.intro ?_ ?_) | (conv => whnf))
  (refine goS ?_ <;> repeat (intro _ <;> refine goS ?_))
  (first | refine Pure.call (pure_nz (b7) rfl ?_) ?_ | refine HCall.pure (pure_nz (b7) rfl ?_) ?_)
  · repeat' (first | exact rfl | exact trivial | (refine And.intro ?_ ?_) | (conv => whnf))
  (refine goS ?_ <;> repeat (intro _ <;> refine goS ?_))
  (first | refine Pure.call (pure_nz (b8) rfl ?_) ?_ | refine HCall.pure (pure_nz (b8) rfl ?_) ?_)
  · repeat' (first | exact rfl | exact trivial | (refine And.intro ?_ ?_) | (conv => whnf))
  (refine goS ?_ <;> repeat (intro _ <;> refine goS ?_))
  (first | refine Pure.call (seven_p) ?_ | refine HCall.pure (seven_p) ?_) <;> (refine goS ?_ <;> repeat (intro _ <;> refine goS ?_))
  (first | refine Pure.call (pure_nz (b9) rfl ?_) ?_ | refine HCall.pure (pure_nz (b9) rfl ?_) ?_)
  · repeat' (first | exact rfl | exact trivial | (refine And.intro ?_ ?_) | (conv => whnf))
  (refine goS ?_ <;> repeat (intro _ <;> refine goS ?_))
  (first | refine Pure.call (pure_nz (b10) rfl ?_) ?_ | refine HCall.pure (pure_nz (b10) rfl ?_) ?_)
  · repeat' (first | exact rfl | exact trivial | (refine And.intro ?_ ?_) | (conv => whnf))
  (refine goS ?_ <;> repeat (intro _ <;> refine goS ?_))
  (first | refine Pure.call (pure_nz (b11) rfl ?_) ?_ | refine HCall.pure (pure_nz (b11) rfl ?_) ?_)
  · repeat' (first | exact rfl | exact trivial | (refine And.intro ?_ ?_) | (conv => whnf))
  (refine goS ?_ <;> repeat (intro _ <;> refine goS ?_))
  (first | refine Pure.call (g4) ?_ | refine HCall.pure (g4) ?_) <;> (refine goS ?_ <;> repeat (intro _ <;> refine goS ?_))
  (first | refine Pure.call (pure_nz (b12) rfl ?_) ?_ | refine HCall.pure (pure_nz (b12) rfl ?_) ?_)
  · repeat' (first | exact rfl | exact trivial | (refine And.intro ?_ ?_) | (conv => whnf))
  (refine goS ?_ <;> repeat (intro _ <;> refine goS ?_))
  (first | refine Pure.call (seven_p) ?_ | refine HCall.pure (seven_p) ?_) <;> (refine goS ?_ <;> repeat (intro _ <;> refine goS ?_))
  (first | refine Pure.call (pure_nz (b13) rfl ?_) ?_ | refine HCall.pure (pure_nz (b13) rfl ?_) ?_)
  · repeat' (first | exact rfl | exact trivial | (refine And.intro ?_ ?_) | (conv => whnf))
  (refine goS ?_ <;> repeat (intro _ <;> refine goS ?_))
  (first | refine Pure.call (awake20_p) ?_ | refine HCall.pure (awake20_p) ?_) <;> (refine goS ?_ <;> repeat (intro _ <;> refine goS ?_))
  exact ret_now _ rfl
end Go.Proofs.YtdblhmpcilihnaaGreat
