/- awake: the chapter's examples hold. And the contracts at lists that were just laid. -/
import Derived.Test.YtafnhoccaddagaaData
import Derived.Test.YtafnhoccaddagaaRows
import Derived.WalkKit
import Derived.ProofKit
import Derived.Lib.Hide
import Derived.Deep.RegionHeld3
import Derived.Deep.DeepCutAuto
import Derived.Deep.LoopGhost
import Derived.BigQuiet
import Derived.WalkLawsBesides
import Derived.WalkSpells
import Derived.Test.YtafnhoccaddagaaPortsRef
import Derived.Test.YtafnhoccaddagaaPortsMeet
namespace Go.Proofs.Ytafnhoccaddagaa
open Go.ChangeShapes Go.WideShapes Go.ChangeAt Go.RowKit
set_option linter.unusedVariables false
set_option linter.unusedSimpArgs false
theorem lit_row {W : World} {cs : Array Value} {t : TypeId} {g : Nat} (hg : g = W.heap.size) : Row (W.alloc (.cells cs t)) (some ⟨g, 0, none⟩) cs.toList := by
  subst hg; exact row_of_block (heap_last _ _ _ rfl)
theorem lit_sl {W : World} {xs : List Int} {cs : Array Value} {t : TypeId} {g : Nat} (hcs : cs = (xs.map (Value.int .i64)).toArray) (hg : g = W.heap.size) : Kn.Sl (Kn.int .i64) (W.alloc (.cells cs t)) (some ⟨g, 0, none⟩) xs :=
  ⟨xs.map (Value.int .i64), cells_ints _ xs, by have := lit_row (W := W) (cs := cs) (t := t) hg; rw [hcs] at this ⊢; simpa using this⟩
theorem self_le {n : Nat} (h : n ≤ 1048576) : n ≤ n ∧ n ≤ maxLen := ⟨Nat.le_refl _, by unfold maxLen; omega⟩
theorem check_lit {W : World} {cs : Array Value} {t : TypeId} {g n : Nat} (xs : List Int) (r : Int) (hcs : cs = (xs.map (Value.int .i64)).toArray) (hn : xs.length = n) (hl : xs.length ≤ 1048576) (hr : checkF xs = r) (hg : g = W.heap.size) :
    Calls Try.prog 13 #[.slice (some ⟨g, 0, none⟩) n n] (W.alloc (.cells cs t)) fun e w' => e = .returned (.int .i64 r) ∧ W.alloc (.cells cs t) = w' := by
  subst hn; subst hr
  exact check_any (self_le hl) (lit_sl hcs hg)
theorem has_lit {W : World} {cs : Array Value} {t : TypeId} {g n : Nat} (xs : List Int) (p : Int) (r : Bool) (hcs : cs = (xs.map (Value.int .i64)).toArray) (hn : xs.length = n) (hl : xs.length ≤ 1048576) (hr : xs.contains p = r) (hg : g = W.heap.size) :
    Calls Try.prog 15 #[.slice (some ⟨g, 0, none⟩) n n, .int .i64 p] (W.alloc (.cells cs t)) fun e w' => e = .returned (.bool r) ∧ W.alloc (.cells cs t) = w' := by
  subst hn; subst hr
  exact has_any (self_le hl) (lit_sl hcs hg) p
theorem has_nil {W : World} (p : Int) : Calls Try.prog 15 #[.slice none 0 0, .int .i64 p] W fun e w' => e = .returned (.bool false) ∧ W = w' :=
  has_any (xs := []) ⟨Nat.le_refl _, Nat.zero_le _⟩ (Kn.Sl.nil _ _ _) p
theorem meet_lit {W : World} {cs ds : Array Value} {t u : TypeId} {g g2 n m : Nat} (xs ys r : List Int) (hcs : cs = (xs.map (Value.int .i64)).toArray) (hds : ds = (ys.map (Value.int .i64)).toArray) (hn : xs.length = n) (hm : ys.length = m)
    (hl : xs.length ≤ 1048576) (hl2 : ys.length ≤ 1048576) (hw : ∀ x ∈ xs, (Lit.int .i64 x).wf = true) (hw2 : ∀ x ∈ ys, (Lit.int .i64 x).wf = true) (hr : meetF xs ys = r) (hg : g = W.heap.size) (hg2 : g2 = (W.alloc (.cells cs t)).heap.size) :
    Calls Try.prog 10 #[.slice (some ⟨g, 0, none⟩) n n, .slice (some ⟨g2, 0, none⟩) m m] ((W.alloc (.cells cs t)).alloc (.cells ds u)) (IntsPost ((W.alloc (.cells cs t)).alloc (.cells ds u)) r) := by
  subst hn; subst hm; subst hr
  exact meet_any (self_le hl) (self_le hl2) ((lit_sl hcs hg).below ((Below.refl _ _).alloc (Nat.le_refl _) _)) (lit_sl hds hg2) hl hl2 hw hw2
theorem equal_lit {w W : World} {x : List Int} {A : Option Addr} {c : Nat} {cs : Array Value} {t : TypeId} {g m : Nat} (h : IntsMade w W x A c) (ys : List Int) (r : Bool) (hcs : cs = (ys.map (Value.int .i64)).toArray) (hm : ys.length = m) (hl : ys.length ≤ 1048576) (hr : decide (x = ys) = r) (hg : g = W.heap.size) :
    Calls Try.prog 11 #[.slice A x.length c, .slice (some ⟨g, 0, none⟩) m m] (W.alloc (.cells cs t)) fun e w' => e = .returned (.bool r) ∧ Below (W.alloc (.cells cs t)).heap.size (W.alloc (.cells cs t)) w' := by
  subst hm; subst hr
  exact equalInts_any h.1 (self_le hl) (h.sl.below ((Below.refl _ _).alloc (Nat.le_refl _) _)) (lit_sl hcs hg)
theorem union_lit {W : World} {cs ds : Array Value} {t u v : TypeId} {g g2 g3 n m : Nat} (xs ys r : List Int) (hcs : cs = (xs.map (Value.int .i64)).toArray) (hds : ds = (ys.map (Value.int .i64)).toArray) (hn : xs.length = n) (hm : ys.length = m)
    (hl : xs.length + ys.length ≤ 1048576) (hw : ∀ x ∈ xs, (Lit.int .i64 x).wf = true) (hw2 : ∀ x ∈ ys, (Lit.int .i64 x).wf = true) (hr : unionF [xs, ys] = r) (hg : g = W.heap.size) (hg2 : g2 = (W.alloc (.cells cs t)).heap.size)
    (hg3 : g3 = ((W.alloc (.cells cs t)).alloc (.cells ds u)).heap.size) :
    Calls Try.prog 18 #[.slice (some ⟨g3, 0, none⟩) 2 2] (((W.alloc (.cells cs t)).alloc (.cells ds u)).alloc (.cells #[.slice (some ⟨g, 0, none⟩) n n, .slice (some ⟨g2, 0, none⟩) m m] v))
      (IntsPost (((W.alloc (.cells cs t)).alloc (.cells ds u)).alloc (.cells #[.slice (some ⟨g, 0, none⟩) n n, .slice (some ⟨g2, 0, none⟩) m m] v)) r) := by
  subst hn; subst hm; subst hr
  have h1 := ((lit_sl (t := t) hcs hg).below ((Below.refl _ _).alloc (Nat.le_refl _) (.cells ds u))).below ((Below.refl _ _).alloc (Nat.le_refl _) (.cells #[.slice (some ⟨g, 0, none⟩) xs.length xs.length, .slice (some ⟨g2, 0, none⟩) ys.length ys.length] v))
  have h2 := (lit_sl (t := u) hds hg2).below ((Below.refl _ _).alloc (Nat.le_refl _) (.cells #[.slice (some ⟨g, 0, none⟩) xs.length xs.length, .slice (some ⟨g2, 0, none⟩) ys.length ys.length] v))
  refine union_any (ls := [xs, ys]) (self_le (n := 2) (by omega)) ⟨[.slice (some ⟨g, 0, none⟩) xs.length xs.length, .slice (some ⟨g2, 0, none⟩) ys.length ys.length], ?_, lit_row hg3⟩ (by simpa using hl) (fun l hl => ?_)
  · exact ⟨[_], [_], rfl, ⟨_, _, rfl, self_le (by omega), h1⟩, ⟨[_], [], rfl, ⟨_, _, rfl, self_le (by omega), h2⟩, rfl⟩⟩
  · rcases List.mem_cons.1 hl with rfl | hl
    · exact hw
    · rw [List.mem_singleton.1 hl]; exact hw2
set_option maxRecDepth 20000 in
set_option maxHeartbeats 2000000 in
theorem awake_any (w : World) : Calls Try.prog 17 #[] w fun e w' => e = .returned (.bool true) ∧ Below w.heap.size w w' := by
  go_enter Try.func17, Try.ntmps17
  go_wp2_with fail
  refine (check_lit [80, 443] 0 rfl rfl (by decide) rfl (by simp)).mono ?_
  rintro e w1 ⟨rfl, rfl⟩
  go_wp2_with fail
  refine (check_lit [443, 80] 13 rfl rfl (by decide) rfl (by simp)).mono ?_
  rintro e w1 ⟨rfl, rfl⟩
  go_wp2_with fail
  refine (check_lit [0] 3 rfl rfl (by decide) rfl (by simp)).mono ?_
  rintro e w1 ⟨rfl, rfl⟩
  go_wp2_with fail
  refine (check_lit [1, 2, 3, 4, 5, 6, 7, 8, 9] 5 rfl rfl (by decide) rfl (by simp)).mono ?_
  rintro e w1 ⟨rfl, rfl⟩
  go_wp2_with fail
  refine (meet_lit [1, 5, 9] [9, 3, 5, 5] [5, 9] rfl rfl rfl rfl (by decide) (by decide) (by decide) (by decide) (by decide +kernel) (by simp) (by simp)).mono ?_
  rintro e w1 ⟨A1, c1, rfl, hi1⟩
  have hb1 := hi1.2.2
  have hz1 := hb1.size
  simp at hz1
  go_wp2_with fail
  refine (equal_lit hi1 [5, 9] true rfl rfl (by decide) (by decide) (by simp)).mono ?_
  rintro e w2 ⟨rfl, hb2⟩
  have hz2 := hb2.size
  simp at hz2
  go_wp2_with fail
  refine (union_lit [3, 1] [2, 3] [1, 2, 3] rfl rfl rfl rfl (by decide) (by decide) (by decide) (by decide +kernel) (by simp) (by simp) (by simp)).mono ?_
  rintro e w3 ⟨A3, c3, rfl, hi3⟩
  have hb3 := hi3.2.2
  have hz3 := hb3.size
  simp at hz3
  go_wp2_with fail
  refine (equal_lit hi3 [1, 2, 3] true rfl rfl (by decide) (by decide) (by simp)).mono ?_
  rintro e w4 ⟨rfl, hb4⟩
  have hz4 := hb4.size
  simp at hz4
  go_wp2_with fail
  refine (has_lit [1, 5] 5 true rfl rfl (by decide) (by decide) (by simp)).mono ?_
  rintro e w5 ⟨rfl, rfl⟩
  go_wp2_with fail
  refine (has_nil 5).mono ?_
  rintro e w5 ⟨rfl, rfl⟩
  go_wp2_with fail
  go_ret
  exact ⟨rfl, (by repeat (first | with_reducible exact Below.refl _ _ | with_reducible assumption | with_reducible refine Below.alloc ?_ (by first | omega | (simp; done) | (simp; omega)) _ | with_reducible refine Below.setCell ?_ (by first | omega | (simp; done) | (simp; omega)) _ | with_reducible refine Below.drew ?_ | with_reducible refine below_drewN ?_ _ | with_reducible refine Below.next ?_ (by with_reducible assumption)))⟩
end Go.Proofs.Ytafnhoccaddagaa
