/- What is over; sums of resources. Sums of resources: the loops. -/
import Derived.Test.YtdblhmpcilihnaaGreatM1
import Derived.Test.YtdblhmpcilihnaaGreatE7
namespace Go.Proofs.YtdblhmpcilihnaaGreat
open Go.RowKit E
set_option maxRecDepth 100000
set_option linter.unusedVariables false
set_option linter.unusedSimpArgs false
def overT (n : Int) : Prop := n = 6 ∨ n = 7
instance (n : Int) : Decidable (overT n) := by unfold overT; infer_instance
theorem bdec {b : Bool} {p : Prop} [Decidable p] (h : b = true ↔ p) : B b = B (decide p) := by
  have : b = decide p := by rw [Bool.eq_iff_iff, decide_eq_true_eq]; exact h
  rw [this]
theorem by_t {p : Prop} [Decidable p] (h : p) : B true = B (decide p) := bdec ⟨fun _ => h, fun _ => rfl⟩
theorem by_f {p : Prop} [Decidable p] (h : ¬ p) : B false = B (decide p) := bdec ⟨nofun, fun h' => absurd h' h⟩
theorem taskOver_p (n : Int) : Pure Tryz.prog 48 [U8 n] (B (decide (overT n))) := by
  refine Pure.ev Tryz.f48 mx Tryz.func48 (by kernel_rfl) rfl rfl rfl ?_ <;> (refine goS ?_ <;> repeat (intro _ <;> refine goS ?_))
  repeat' ((refine bnS (fun hr h => ?_) (fun hr h => ?_) <;> first | (exact False.elim h) | ((refine goS ?_ <;> repeat (intro _ <;> refine goS ?_)))))
  all_goals (refine ret_now _ (bdec ?_))
  all_goals (simp [overT]; try omega)
theorem ref19Over_p (n : Int) : Pure Tryz.prog 140 [U8 n] (B (decide (overT n))) := by
  refine Pure.ev Tryz.f140 mx Tryz.func140 (by kernel_rfl) rfl rfl rfl ?_ <;> (refine goS ?_ <;> repeat (intro _ <;> refine goS ?_))
  repeat' ((refine bnS (fun hr h => ?_) (fun hr h => ?_) <;> first | (exact False.elim h) | ((refine goS ?_ <;> repeat (intro _ <;> refine goS ?_)))))
  all_goals (refine ret_now _ (bdec ?_))
  all_goals (simp [overT]; try omega)
def Alloc.over (a : Alloc) : Prop := ∀ j, j < a.tasks.length → overT (a.tasks.getD j default).state
open Classical in
noncomputable def overB (a : Alloc) : Bool := decide a.over
open Classical in
theorem stateOver_p (a : Alloc) : Pure Tryz.prog 15 [a.av] (B (overB a)) := by
  refine Pure.ev Tryz.f15 mx Tryz.func15 (by kernel_rfl) rfl rfl rfl ?_ <;> (refine goS ?_ <;> repeat (intro _ <;> refine goS ?_))
  refine loop_st (S := Nat) (fun k => [(6, .sl 8 a.tasks.length fun i => Task.fv (a.tasks.getD i default)), (7, I a.tasks.length), (8, I k)]) (fun _ => ⟨1, []⟩) (fun k => k ≤ a.tasks.length ∧ ∀ j, j < k → overT (a.tasks.getD j default).state) (fun k => a.tasks.length - k) 0
    (Wk.cut rfl ⟨⟨rfl, rfl⟩, ⟨rfl, rfl⟩, ⟨rfl, rfl⟩, trivial⟩ trivial) ⟨Nat.zero_le _, fun j hj => absurd hj (Nat.not_lt_zero j)⟩ ?_
  rintro k ⟨hk, hT⟩
  (refine goS ?_ <;> repeat (intro _ <;> refine goS ?_))
  (refine bnS (fun hr h => ?_) (fun hr h => ?_) <;> first | (exact False.elim h) | ((refine goS ?_ <;> repeat (intro _ <;> refine goS ?_))))
  · have hk2 : k < a.tasks.length := h
    (first | refine Pure.call (taskOver_p _) ?_ | refine HCall.pure (taskOver_p _) ?_) <;> (refine goS ?_ <;> repeat (intro _ <;> refine goS ?_))
    (refine bnS (fun hr h => ?_) (fun hr h => ?_) <;> first | (exact False.elim h) | ((refine goS ?_ <;> repeat (intro _ <;> refine goS ?_))))
    · exact ret_now _ (by_f fun ho => h (ho k hk2))
    · exact ⟨k + 1, by omega, ⟨by omega, fun j hj => by
        rcases Nat.lt_succ_iff_lt_or_eq.1 hj with h1 | rfl
        · exact hT j h1
        · exact h⟩, Wk.cut rfl ⟨⟨rfl, rfl⟩, ⟨rfl, rfl⟩, ⟨by simp only [← wrapS (show k < 9223372036854775807 by omega)]; rfl, rfl⟩, trivial⟩ trivial⟩
  · exact ret_now _ (by_t fun j hj => hT j (by omega))
open Classical in
theorem refOver_p (a : Alloc) : Pure Tryz.prog 141 [a.av] (B (overB a)) := by
  refine Pure.ev Tryz.f141 mx Tryz.func141 (by kernel_rfl) rfl rfl rfl ?_ <;> (refine goS ?_ <;> repeat (intro _ <;> refine goS ?_))
  refine loop_st (S := Nat) (fun k => [(1, .hptr 0 10 0 0), (3, I k)]) (fun _ => ⟨1, [(0, some ⟨10, [a.fv.map FV.up], none⟩)]⟩) (fun k => k ≤ a.tasks.length ∧ ∀ j, j < k → overT (a.tasks.getD j default).state) (fun k => a.tasks.length - k) 0
    (Wk.cut rfl ⟨⟨rfl, rfl⟩, ⟨rfl, rfl⟩, trivial⟩ ⟨⟨rfl, rfl, row1 rfl, nofun⟩, trivial⟩) ⟨Nat.zero_le _, fun j hj => absurd hj (Nat.not_lt_zero j)⟩ ?_
  rintro k ⟨hk, hT⟩
  (refine goS ?_ <;> repeat (intro _ <;> refine goS ?_))
  (refine bnS (fun hr h => ?_) (fun hr h => ?_) <;> first | (exact False.elim h) | ((refine goS ?_ <;> repeat (intro _ <;> refine goS ?_))))
  · have hk2 : k < a.tasks.length := h
    (first | refine Pure.call (ref19Over_p _) ?_ | refine HCall.pure (ref19Over_p _) ?_) <;> (refine goS ?_ <;> repeat (intro _ <;> refine goS ?_))
    (refine bnS (fun hr h => ?_) (fun hr h => ?_) <;> first | (exact False.elim h) | ((refine goS ?_ <;> repeat (intro _ <;> refine goS ?_))))
    · exact ret_now _ (by_f fun ho => h (ho k hk2))
    · exact ⟨k + 1, by omega, ⟨by omega, fun j hj => by
        rcases Nat.lt_succ_iff_lt_or_eq.1 hj with h1 | rfl
        · exact hT j h1
        · exact h⟩, Wk.sub ⟨rfl, by simp only [← wrapS (show k < 9223372036854775807 by omega)]; rfl, trivial⟩⟩
  · exact ret_now _ (by_t fun j hj => hT j (by omega))
def Res.le (a b : Res) : Prop := a.cpu ≤ b.cpu ∧ a.mem ≤ b.mem ∧ a.disk ≤ b.disk
instance (a b : Res) : Decidable (a.le b) := by unfold Res.le; infer_instance
theorem fits_p (a b : Res) : Pure Tryz.prog 132 [a.av, b.av] (B (decide (a.le b))) := by
  refine Pure.ev Tryz.f132 mx Tryz.func132 (by kernel_rfl) rfl rfl rfl ?_ <;> (refine goS ?_ <;> repeat (intro _ <;> refine goS ?_))
  (first | refine Pure.call (amounts_p _) ?_ | refine HCall.pure (amounts_p _) ?_) <;> (refine goS ?_ <;> repeat (intro _ <;> refine goS ?_))
  (first | refine Pure.call (amounts_p _) ?_ | refine HCall.pure (amounts_p _) ?_) <;> (refine goS ?_ <;> repeat (intro _ <;> refine goS ?_))
  refine loop_u 4 ?_
  (refine goS ?_ <;> repeat (intro _ <;> refine goS ?_))
  repeat' ((refine bnS (fun hr h => ?_) (fun hr h => ?_) <;> first | (exact False.elim h) | ((refine goS ?_ <;> repeat (intro _ <;> refine goS ?_)))))
  all_goals first
    | exact ret_now _ (by_t (by unfold Res.le; omega))
    | exact ret_now _ (by_f (by unfold Res.le; omega))
theorem fits09_p (a b : Res) : Pure Tryz.prog 143 [a.av, b.av] (B (decide (a.le b))) := by
  refine Pure.ev Tryz.f143 mx Tryz.func143 (by kernel_rfl) rfl rfl rfl ?_ <;> (refine goS ?_ <;> repeat (intro _ <;> refine goS ?_))
  repeat' ((refine bnS (fun hr h => ?_) (fun hr h => ?_) <;> first | (exact False.elim h) | ((refine goS ?_ <;> repeat (intro _ <;> refine goS ?_)))))
  all_goals (refine ret_now _ (bdec ?_))
  all_goals (simp [Res.le]; try omega)
def Res.add (a b : Res) : Res := ⟨a.cpu + b.cpu, a.mem + b.mem, a.disk + b.disk⟩
def sumR : Res → List Res → Option Res
  | x, [] => some x
  | x, r :: l => if r.ok ∧ (x.add r).ok then sumR (x.add r) l else none
def sumA : Option Res → AV
  | some x => .tup [x.av, B true]
  | none => .tup [Res.av ⟨0, 0, 0⟩, B false]
theorem add09_p (a b : Res) (ha : a.ok) : Pure Tryz.prog 191 [a.av, b.av] (sumA (if b.ok ∧ (a.add b).ok then some (a.add b) else none)) := by
  by_cases hb : b.ok
  case neg =>
    rw [if_neg (fun ho => hb ho.1)]
    refine Pure.ev Tryz.f191 mx Tryz.func191 (by kernel_rfl) rfl rfl rfl ?_ <;> (refine goS ?_ <;> repeat (intro _ <;> refine goS ?_))
    (first | refine Pure.call (check09_p a) ?_ | refine HCall.pure (check09_p a) ?_) <;> (refine goS ?_ <;> repeat (intro _ <;> refine goS ?_))
    rw [eUn_y ha]
    (refine goS ?_ <;> repeat (intro _ <;> refine goS ?_))
    (first | refine Pure.call (check09_p b) ?_ | refine HCall.pure (check09_p b) ?_) <;> (refine goS ?_ <;> repeat (intro _ <;> refine goS ?_))
    rw [eUn_n hb]
    (refine goS ?_ <;> repeat (intro _ <;> refine goS ?_))
    exact ret_now _ rfl
  have e1 : IntKind.i64.wrap (a.cpu + b.cpu) = a.cpu + b.cpu := wrap_id (by have := ha.1.1; have := hb.1.1; omega) (by have := ha.1.2; have := hb.1.2; omega)
  have e2 : IntKind.i64.wrap (a.mem + b.mem) = a.mem + b.mem := wrap_id (by have := ha.2.1.1; have := hb.2.1.1; omega) (by have := ha.2.1.2; have := hb.2.1.2; omega)
  have e3 : IntKind.i64.wrap (a.disk + b.disk) = a.disk + b.disk := wrap_id (by have := ha.2.2.1; have := hb.2.2.1; omega) (by have := ha.2.2.2; have := hb.2.2.2; omega)
  have hc := check09_p (a.add b)
  unfold Res.av Res.add at hc
  simp only at hc
  rw [← e1, ← e2, ← e3] at hc
  by_cases h2 : (a.add b).ok
  · rw [if_pos ⟨hb, h2⟩]
    rw [eUn_y (show Res.ok ⟨IntKind.i64.wrap (a.cpu + b.cpu), IntKind.i64.wrap (a.mem + b.mem), IntKind.i64.wrap (a.disk + b.disk)⟩ by rw [e1, e2, e3]; exact h2)] at hc
    refine Pure.ev Tryz.f191 mx Tryz.func191 (by kernel_rfl) rfl rfl rfl ?_ <;> (refine goS ?_ <;> repeat (intro _ <;> refine goS ?_))
    (first | refine Pure.call (check09_p a) ?_ | refine HCall.pure (check09_p a) ?_) <;> (refine goS ?_ <;> repeat (intro _ <;> refine goS ?_))
    rw [eUn_y ha]
    (refine goS ?_ <;> repeat (intro _ <;> refine goS ?_))
    (first | refine Pure.call (check09_p b) ?_ | refine HCall.pure (check09_p b) ?_) <;> (refine goS ?_ <;> repeat (intro _ <;> refine goS ?_))
    rw [eUn_y hb]
    (refine goS ?_ <;> repeat (intro _ <;> refine goS ?_))
    (first | refine Pure.call (hc) ?_ | refine HCall.pure (hc) ?_) <;> (refine goS ?_ <;> repeat (intro _ <;> refine goS ?_))
    refine ret_now _ ?_
    rw [e1, e2, e3]; rfl
  · rw [if_neg (fun ho => h2 ho.2)]
    rw [eUn_n (show ¬ Res.ok ⟨IntKind.i64.wrap (a.cpu + b.cpu), IntKind.i64.wrap (a.mem + b.mem), IntKind.i64.wrap (a.disk + b.disk)⟩ by rw [e1, e2, e3]; exact h2)] at hc
    refine Pure.ev Tryz.f191 mx Tryz.func191 (by kernel_rfl) rfl rfl rfl ?_ <;> (refine goS ?_ <;> repeat (intro _ <;> refine goS ?_))
    (first | refine Pure.call (check09_p a) ?_ | refine HCall.pure (check09_p a) ?_) <;> (refine goS ?_ <;> repeat (intro _ <;> refine goS ?_))
    rw [eUn_y ha]
    (refine goS ?_ <;> repeat (intro _ <;> refine goS ?_))
    (first | refine Pure.call (check09_p b) ?_ | refine HCall.pure (check09_p b) ?_) <;> (refine goS ?_ <;> repeat (intro _ <;> refine goS ?_))
    rw [eUn_y hb]
    (refine goS ?_ <;> repeat (intro _ <;> refine goS ?_))
    (first | refine Pure.call (hc) ?_ | refine HCall.pure (hc) ?_) <;> (refine goS ?_ <;> repeat (intro _ <;> refine goS ?_))
    exact ret_now _ rfl
abbrev slR (l : List Res) : AV := .sl 3 l.length fun i => Res.fv (l.getD i default)
theorem dropAtD {α : Type} [Inhabited α] {l : List α} {k : Nat} (h : k < l.length) : l.drop k = l.getD k default :: l.drop (k + 1) := by
  rw [List.drop_eq_getElem_cons h, List.getD_eq_getElem?_getD, List.getElem?_eq_getElem h]; rfl
theorem sumR_cons (x r : Res) (l : List Res) : sumR x (r :: l) = if r.ok ∧ (x.add r).ok then sumR (x.add r) l else none := rfl
theorem res0_ok : Res.ok ⟨0, 0, 0⟩ := by unfold Res.ok inR; simp
theorem sum09_gen (l : List Res) (r : Option Res) (hr : sumR ⟨0, 0, 0⟩ l = r) (hf : (sumA r).free = true) : Pure Tryz.prog 142 [slR l] (sumA r) := by
  refine Pure.ev Tryz.f142 mx Tryz.func142 (by kernel_rfl) rfl rfl hf ?_ <;> (refine goS ?_ <;> repeat (intro _ <;> refine goS ?_))
  refine loop_st (S := Nat × Bool × Res) (fun s => [(0, slR l), (2, .hptr 0 3 0 0), (4, .hptr 1 3 0 0), (5, B s.2.1), (6, I s.1)]) (fun s => ⟨2, [(1, some ⟨3, [s.2.2.fv.map FV.up], none⟩), (0, some ⟨3, [Res.fv ⟨0, 0, 0⟩ |>.map FV.up], none⟩)]⟩)
    (fun s => s.1 ≤ l.length ∧ r = (if s.2.1 = true then sumR s.2.2 (l.drop s.1) else none) ∧ s.2.2.ok ∧ (s.2.1 = false → s.2.2 = ⟨0, 0, 0⟩)) (fun s => l.length - s.1) (0, true, ⟨0, 0, 0⟩)
    (Wk.cut rfl ⟨⟨rfl, rfl⟩, ⟨rfl, rfl⟩, ⟨rfl, rfl⟩, ⟨rfl, rfl⟩, ⟨rfl, rfl⟩, trivial⟩ ⟨⟨rfl, rfl, row1 rfl, nofun⟩, ⟨rfl, rfl, row1 rfl, nofun⟩, trivial⟩) ⟨Nat.zero_le _, hr.symm, res0_ok, nofun⟩ ?_
  rintro ⟨k, ok, x⟩ ⟨hk, hI, hx, h0⟩
  dsimp only at hk hI hx h0
  cases ok
  · rw [if_neg (by simp)] at hI
    have := h0 rfl
    subst this
    subst hI
    (refine goS ?_ <;> repeat (intro _ <;> refine goS ?_))
    repeat' ((refine bnS (fun hr h => ?_) (fun hr h => ?_) <;> first | (exact False.elim h) | ((refine goS ?_ <;> repeat (intro _ <;> refine goS ?_)))))
    all_goals exact ret_now _ rfl
  · rw [if_pos rfl] at hI
    (refine goS ?_ <;> repeat (intro _ <;> refine goS ?_))
    (refine bnS (fun hr h => ?_) (fun hr h => ?_) <;> first | (exact False.elim h) | ((refine goS ?_ <;> repeat (intro _ <;> refine goS ?_))))
    · have hk2 : k < l.length := h
      rw [dropAtD hk2, sumR_cons] at hI
      have hA := add09_p x (l.getD k default) hx
      by_cases hc : (l.getD k default).ok ∧ (x.add (l.getD k default)).ok
      · rw [if_pos hc] at hI hA
        (first | refine Pure.call (hA) ?_ | refine HCall.pure (hA) ?_) <;> (refine goS ?_ <;> repeat (intro _ <;> refine goS ?_))
        exact ⟨(k + 1, true, x.add (l.getD k default)), by dsimp only; omega, ⟨by dsimp only; omega, by dsimp only; rw [if_pos rfl]; exact hI, hc.2, nofun⟩, Wk.cut rfl ⟨⟨rfl, rfl⟩, ⟨rfl, rfl⟩, ⟨rfl, rfl⟩, ⟨rfl, rfl⟩, ⟨by simp only [← wrapS (show k < 9223372036854775807 by omega)]; rfl, rfl⟩, trivial⟩ ⟨⟨rfl, rfl, row1 rfl, nofun⟩, ⟨rfl, rfl, row1 rfl, nofun⟩, trivial⟩⟩
      · rw [if_neg hc] at hI hA
        (first | refine Pure.call (hA) ?_ | refine HCall.pure (hA) ?_) <;> (refine goS ?_ <;> repeat (intro _ <;> refine goS ?_))
        exact ⟨(k + 1, false, ⟨0, 0, 0⟩), by dsimp only; omega, ⟨by dsimp only; omega, by dsimp only; rw [if_neg (by simp)]; exact hI, res0_ok, fun _ => rfl⟩, Wk.cut rfl ⟨⟨rfl, rfl⟩, ⟨rfl, rfl⟩, ⟨rfl, rfl⟩, ⟨rfl, rfl⟩, ⟨by simp only [← wrapS (show k < 9223372036854775807 by omega)]; rfl, rfl⟩, trivial⟩ ⟨⟨rfl, rfl, row1 rfl, nofun⟩, ⟨rfl, rfl, row1 rfl, nofun⟩, trivial⟩⟩
    · rw [List.drop_of_length_le (by omega)] at hI
      subst hI
      exact ret_now _ rfl
theorem sum09_p (l : List Res) : Pure Tryz.prog 142 [slR l] (sumA (sumR ⟨0, 0, 0⟩ l)) :=
  sum09_gen l _ rfl (by cases sumR ⟨0, 0, 0⟩ l <;> rfl)
theorem sum_gen (l : List Res) (r : Option Res) (hr : sumR ⟨0, 0, 0⟩ l = r) (hf : (sumA r).free = true) : Pure Tryz.prog 131 [slR l] (sumA r) := by
  refine Pure.ev Tryz.f131 mx Tryz.func131 (by kernel_rfl) rfl rfl hf ?_ <;> (refine goS ?_ <;> repeat (intro _ <;> refine goS ?_))
  refine loop_st (S := Nat × Res) (fun s => [(2, .hptr 0 3 0 0), (4, .hptr 1 3 0 0), (9, slR l), (10, I l.length), (11, I s.1)]) (fun s => ⟨2, [(1, some ⟨3, [s.2.fv.map FV.up], none⟩), (0, some ⟨3, [Res.fv ⟨0, 0, 0⟩ |>.map FV.up], none⟩)]⟩)
    (fun s => s.1 ≤ l.length ∧ r = sumR s.2 (l.drop s.1) ∧ s.2.ok) (fun s => l.length - s.1) (0, ⟨0, 0, 0⟩)
    (Wk.cut rfl ⟨⟨rfl, rfl⟩, ⟨rfl, rfl⟩, ⟨rfl, rfl⟩, ⟨rfl, rfl⟩, ⟨rfl, rfl⟩, trivial⟩ ⟨⟨rfl, rfl, row1 rfl, nofun⟩, ⟨rfl, rfl, row1 rfl, nofun⟩, trivial⟩) ⟨Nat.zero_le _, hr.symm, res0_ok⟩ ?_
  rintro ⟨k, x⟩ ⟨hk, hI, hx⟩
  dsimp only at hk hI hx
  (refine goS ?_ <;> repeat (intro _ <;> refine goS ?_))
  (refine bnS (fun hr h => ?_) (fun hr h => ?_) <;> first | (exact False.elim h) | ((refine goS ?_ <;> repeat (intro _ <;> refine goS ?_))))
  · have hk2 : k < l.length := h
    rw [dropAtD hk2, sumR_cons] at hI
    by_cases hb : (l.getD k default).ok
    case neg =>
      rw [if_neg (fun ho => hb ho.1)] at hI
      subst hI
      (first | refine Pure.call (resCheck_p (l.getD k default)) ?_ | refine HCall.pure (resCheck_p (l.getD k default)) ?_) <;> (refine goS ?_ <;> repeat (intro _ <;> refine goS ?_))
      rw [eUn_n hb]
      (refine goS ?_ <;> repeat (intro _ <;> refine goS ?_))
      exact ret_now _ rfl
    have e1 : IntKind.i64.wrap (x.cpu + (l.getD k default).cpu) = x.cpu + (l.getD k default).cpu := wrap_id (by have := hx.1.1; have := hb.1.1; omega) (by have := hx.1.2; have := hb.1.2; omega)
    have e2 : IntKind.i64.wrap (x.mem + (l.getD k default).mem) = x.mem + (l.getD k default).mem := wrap_id (by have := hx.2.1.1; have := hb.2.1.1; omega) (by have := hx.2.1.2; have := hb.2.1.2; omega)
    have e3 : IntKind.i64.wrap (x.disk + (l.getD k default).disk) = x.disk + (l.getD k default).disk := wrap_id (by have := hx.2.2.1; have := hb.2.2.1; omega) (by have := hx.2.2.2; have := hb.2.2.2; omega)
    have hc := resCheck_p (x.add (l.getD k default))
    unfold Res.av Res.add at hc
    simp only at hc
    rw [← e1, ← e2, ← e3] at hc
    (first | refine Pure.call (resCheck_p (l.getD k default)) ?_ | refine HCall.pure (resCheck_p (l.getD k default)) ?_) <;> (refine goS ?_ <;> repeat (intro _ <;> refine goS ?_))
    rw [eUn_y hb]
    (refine goS ?_ <;> repeat (intro _ <;> refine goS ?_))
    (first | refine Pure.call (amounts_p (l.getD k default)) ?_ | refine HCall.pure (amounts_p (l.getD k default)) ?_) <;> (refine goS ?_ <;> repeat (intro _ <;> refine goS ?_))
    refine loop_u 4 ?_
    (refine goS ?_ <;> repeat (intro _ <;> refine goS ?_))
    (first | refine Pure.call (back_p _ _ _) ?_ | refine HCall.pure (back_p _ _ _) ?_) <;> (refine goS ?_ <;> repeat (intro _ <;> refine goS ?_))
    by_cases h2 : (x.add (l.getD k default)).ok
    · rw [if_pos ⟨hb, h2⟩] at hI
      rw [eUn_y (show Res.ok ⟨IntKind.i64.wrap (x.cpu + (l.getD k default).cpu), IntKind.i64.wrap (x.mem + (l.getD k default).mem), IntKind.i64.wrap (x.disk + (l.getD k default).disk)⟩ by rw [e1, e2, e3]; exact h2)] at hc
      have key : Res.fv (x.add (l.getD k default)) = Res.fv ⟨IntKind.i64.wrap (x.cpu + (l.getD k default).cpu), IntKind.i64.wrap (x.mem + (l.getD k default).mem), IntKind.i64.wrap (x.disk + (l.getD k default).disk)⟩ := by rw [e1, e2, e3]; rfl
      (first | refine Pure.call (hc) ?_ | refine HCall.pure (hc) ?_) <;> (refine goS ?_ <;> repeat (intro _ <;> refine goS ?_))
      exact ⟨(k + 1, x.add (l.getD k default)), by dsimp only; omega, ⟨by dsimp only; omega, hI, h2⟩, Wk.cut rfl ⟨⟨rfl, rfl⟩, ⟨rfl, rfl⟩, ⟨rfl, rfl⟩, ⟨rfl, rfl⟩, ⟨by simp only [← wrapS (show k < 9223372036854775807 by omega)]; rfl, rfl⟩, trivial⟩ ⟨⟨by dsimp only; rw [key]; rfl, rfl, row1 rfl, nofun⟩, ⟨rfl, rfl, row1 rfl, nofun⟩, trivial⟩⟩
    · rw [if_neg (fun ho => h2 ho.2)] at hI
      subst hI
      rw [eUn_n (show ¬ Res.ok ⟨IntKind.i64.wrap (x.cpu + (l.getD k default).cpu), IntKind.i64.wrap (x.mem + (l.getD k default).mem), IntKind.i64.wrap (x.disk + (l.getD k default).disk)⟩ by rw [e1, e2, e3]; exact h2)] at hc
      (first | refine Pure.call (hc) ?_ | refine HCall.pure (hc) ?_) <;> (refine goS ?_ <;> repeat (intro _ <;> refine goS ?_))
      exact ret_now _ rfl
  · rw [List.drop_of_length_le (by omega)] at hI
    subst hI
    (first | refine Pure.call (back_p _ _ _) ?_ | refine HCall.pure (back_p _ _ _) ?_) <;> (refine goS ?_ <;> repeat (intro _ <;> refine goS ?_))
    exact ret_now _ rfl
theorem sum_p (l : List Res) : Pure Tryz.prog 131 [slR l] (sumA (sumR ⟨0, 0, 0⟩ l)) :=
  sum_gen l _ rfl (by cases sumR ⟨0, 0, 0⟩ l <;> rfl)
end Go.Proofs.YtdblhmpcilihnaaGreat
