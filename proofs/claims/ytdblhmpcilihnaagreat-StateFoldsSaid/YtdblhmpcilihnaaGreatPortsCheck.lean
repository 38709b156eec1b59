/- Walks of what only reads lists of numbers: Check of the program and of the reference; ascending; and CopyInts. -/
import Derived.Test.YtdblhmpcilihnaaGreatData
import Derived.Test.YtdblhmpcilihnaaGreatRows
import Derived.WalkKit
import Derived.ProofKit
import Derived.Lib.Hide
import Derived.Deep.RegionHeld3
import Derived.Deep.DeepCutAuto
import Derived.Deep.LoopGhost
import Derived.BigQuiet
import Derived.WalkLawsBesides
import Derived.WalkSpells
import Derived.Test.YtdblhmpcilihnaaGreatPortsHas
import Derived.Test.YtdblhmpcilihnaaGreatMade
set_option maxRecDepth 100000
namespace Go.Proofs.YtdblhmpcilihnaaGreat
open Go.ChangeShapes Go.WideShapes Go.ChangeAt Go.RowKit
set_option linter.unusedVariables false
set_option linter.unusedSimpArgs false
theorem drop_at {xs : List Int} {k : Nat} (h : k < xs.length) : xs.drop k = xs.getD k 0 :: xs.drop (k + 1) := by
  rw [List.drop_eq_getElem_cons h]; simp [List.getD, h]
theorem chk_cons (b p : Int) (l : List Int) : chk b (p :: l) = if p < 1 ∨ 65535 < p then 3 else if p ≤ b then 13 else chk p l := rfl
set_option maxHeartbeats 1000000 in
theorem check_any {w : World} {xs : List Int} {A : Option Addr} {c : Nat} (hc : xs.length ≤ c ∧ c ≤ maxLen) (hs : Kn.Sl (Kn.int .i64) w A xs) :
    Calls Tryz.prog 126 #[.slice A xs.length c] w fun e w' => e = .returned (.int .i64 (checkF xs)) ∧ w = w' := by
  unfold maxLen at hc
  by_cases hl : 8 < xs.length
  · have hli : (8 : Int) < xs.length := by omega
    go_enter Tryz.func126, Tryz.ntmps126
    go_wp2_with fail
    go_ret
    exact ⟨by rw [checkF, if_pos hl]; rfl, rfl⟩
  · have hli : ¬ (8 : Int) < xs.length := by omega
    go_enter Tryz.func126, Tryz.ntmps126
    go_wp2_with fail
    go_loopw [3, 11] (fun v i wr => ∃ (k : Nat) (b : Int), k ≤ xs.length ∧ v = .int .i64 b ∧ i = .int .i64 k ∧ checkF xs = chk b (xs.drop k) ∧ w = wr) (fun _ i _ => xs.length - (valInt i).toNat)
    case atStart => exact ⟨0, 0, Nat.zero_le _, rfl, rfl, by rw [checkF, if_neg hl]; rfl, rfl⟩
    case round =>
      obtain ⟨k, b, hk, rfl, rfl, heq, rfl⟩ := hrel
      by_cases hlt : k < xs.length
      · rw [drop_at hlt, chk_cons] at heq
        obtain ⟨b0, off, rfl, hb, hcell⟩ := hs.ints (by omega)
        have g := hcell k hlt
        have l0 : (k : Int) < xs.length := by omega
        have l4 : (0 : Int) ≤ k := by omega
        obtain ⟨x, hx⟩ : ∃ x, x = xs.getD k 0 := ⟨_, rfl⟩
        rw [← hx] at g heq
        clear hx hcell
        have HE := Lib.hid heq
        clear heq
        by_cases h1 : x < 1
        · go_wp2_with fail
          go_ret
          exact ⟨by rw [HE.out, if_pos (.inl h1)]; rfl, rfl⟩
        · by_cases h2 : 65535 < x
          · go_wp2_with fail
            go_ret
            exact ⟨by rw [HE.out, if_pos (.inr h2)]; rfl, rfl⟩
          · by_cases h3 : x ≤ b
            · go_wp2_with fail
              go_ret
              exact ⟨by rw [HE.out, if_neg (by omega), if_pos h3]; rfl, rfl⟩
            · go_wp2_with fail
              go_roundw
              case rel => exact ⟨k + 1, x, by omega, rfl, by go_num, by rw [HE.out, if_neg (by omega), if_neg h3], by simp⟩
              case measure => simp [valInt]; omega
      · go_wp2_with fail
        go_ret
        exact ⟨by rw [heq, List.drop_eq_nil_of_le (by omega)]; rfl, rfl⟩
set_option maxHeartbeats 1000000 in
theorem refCheck_any {w : World} {xs : List Int} {A : Option Addr} {c : Nat} (hc : xs.length ≤ c ∧ c ≤ maxLen) (hs : Kn.Sl (Kn.int .i64) w A xs) :
    Calls Tryz.prog 173 #[.slice A xs.length c] w fun e w' => e = .returned (.int .i64 (checkF xs)) ∧ Below w.heap.size w w' := by
  unfold maxLen at hc
  by_cases hl : 8 < xs.length
  · have hli : (8 : Int) < xs.length := by omega
    go_enter Tryz.func173, Tryz.ntmps173
    go_wp2_with fail
    go_ret
    exact ⟨by rw [checkF, if_pos hl]; rfl, (by repeat (first | with_reducible exact Below.refl _ _ | with_reducible assumption | with_reducible refine Below.alloc ?_ (by first | omega | (simp; done) | (simp; omega)) _ | with_reducible refine Below.setCell ?_ (by first | omega | (simp; done) | (simp; omega)) _ | with_reducible refine Below.drew ?_ | with_reducible refine below_drewN ?_ _ | with_reducible refine Below.next ?_ (by with_reducible assumption)))⟩
  · have hli : ¬ (8 : Int) < xs.length := by omega
    go_enter Tryz.func173, Tryz.ntmps173
    go_wp2_with fail
    go_loopw [3] (fun i wr => ∃ (k : Nat) (b : Int), k ≤ xs.length ∧ i = .int .i64 k ∧ (k = 0 → b = 0) ∧ (0 < k → b = xs.getD (k - 1) 0) ∧ checkF xs = chk b (xs.drop k) ∧ ∃ n, wr = w.drewN n) (fun i _ => xs.length - (valInt i).toNat)
    case atStart => exact ⟨0, 0, Nat.zero_le _, rfl, fun _ => rfl, fun h => absurd h (by omega), by rw [checkF, if_neg hl]; rfl, 0, rfl⟩
    case round =>
      obtain ⟨k, b, hk, rfl, hb0, hb1, heq, n, rfl⟩ := hrel
      by_cases hlt : k < xs.length
      · rw [drop_at hlt, chk_cons] at heq
        obtain ⟨blk, off, rfl, hb, hcell⟩ := hs.ints (by omega)
        have g := hcell k hlt
        have l0 : (k : Int) < xs.length := by omega
        have l4 : (0 : Int) ≤ k := by omega
        obtain ⟨x, hx⟩ : ∃ x, x = xs.getD k 0 := ⟨_, rfl⟩
        rw [← hx] at g heq
        have HX := Lib.hid hx
        have HE := Lib.hid heq
        have HC := Lib.hid hcell
        clear heq hx hcell
        by_cases h1 : x < 1
        · go_wp2_with fail
          go_ret
          exact ⟨by rw [HE.out, if_pos (.inl h1)]; rfl, (by repeat (first | with_reducible exact Below.refl _ _ | with_reducible assumption | with_reducible refine Below.alloc ?_ (by first | omega | (simp; done) | (simp; omega)) _ | with_reducible refine Below.setCell ?_ (by first | omega | (simp; done) | (simp; omega)) _ | with_reducible refine Below.drew ?_ | with_reducible refine below_drewN ?_ _ | with_reducible refine Below.next ?_ (by with_reducible assumption)))⟩
        · by_cases h2 : 65535 < x
          · go_wp2_with fail
            go_ret
            exact ⟨by rw [HE.out, if_pos (.inr h2)]; rfl, (by repeat (first | with_reducible exact Below.refl _ _ | with_reducible assumption | with_reducible refine Below.alloc ?_ (by first | omega | (simp; done) | (simp; omega)) _ | with_reducible refine Below.setCell ?_ (by first | omega | (simp; done) | (simp; omega)) _ | with_reducible refine Below.drew ?_ | with_reducible refine below_drewN ?_ _ | with_reducible refine Below.next ?_ (by with_reducible assumption)))⟩
          · by_cases hk0 : k = 0
            · subst hk0
              obtain rfl := hb0 rfl
              rw [Nat.add_zero] at g
              go_wp2_with fail
              go_quiet (fail)
              go_wp2_with fail
              go_roundw
              case rel => exact ⟨1, x, by omega, by go_num, fun h => absurd h (by omega), fun _ => HX.out, by rw [HE.out, if_neg (by omega), if_neg (by omega)], n + nq, rfl⟩
              case measure => simp [valInt]; omega
            · have hg : 0 < k := by omega
              have h1k : (1 : Int) ≤ k := by omega
              have h2k : (k : Int) - 1 < xs.length := by omega
              have g1 := HC.out (k - 1) (by omega)
              rw [← hb1 (by omega)] at g1
              have e1 : (k : Int) - 1 = ((k - 1 : Nat) : Int) := by omega
              have l5 : ((k - 1 : Nat) : Int) < xs.length := by omega
              have l6 : (0 : Int) ≤ ((k - 1 : Nat) : Int) := by omega
              clear hb0 hb1
              by_cases h3 : x ≤ b
              · go_wp2_with fail
                go_quiet (fail)
                go_wp2_with fail
                go_ret
                exact ⟨by rw [HE.out, if_neg (by omega), if_pos h3]; rfl, (by repeat (first | with_reducible exact Below.refl _ _ | with_reducible assumption | with_reducible refine Below.alloc ?_ (by first | omega | (simp; done) | (simp; omega)) _ | with_reducible refine Below.setCell ?_ (by first | omega | (simp; done) | (simp; omega)) _ | with_reducible refine Below.drew ?_ | with_reducible refine below_drewN ?_ _ | with_reducible refine Below.next ?_ (by with_reducible assumption)))⟩
              · go_wp2_with fail
                go_quiet (fail)
                go_wp2_with fail
                go_roundw
                case rel => exact ⟨k + 1, x, by omega, by go_num, fun h => absurd h (by omega), fun _ => HX.out, by rw [HE.out, if_neg (by omega), if_neg (by omega)], n + nq, rfl⟩
                case measure => simp [valInt]; omega
      · go_wp2_with fail
        go_ret
        exact ⟨by rw [heq, List.drop_eq_nil_of_le (by omega)]; rfl, (by repeat (first | with_reducible exact Below.refl _ _ | with_reducible assumption | with_reducible refine Below.alloc ?_ (by first | omega | (simp; done) | (simp; omega)) _ | with_reducible refine Below.setCell ?_ (by first | omega | (simp; done) | (simp; omega)) _ | with_reducible refine Below.drew ?_ | with_reducible refine below_drewN ?_ _ | with_reducible refine Below.next ?_ (by with_reducible assumption)))⟩
def ascF (xs : List Int) : Bool := (List.range xs.length).all fun j => decide (j = 0) || decide (xs.getD (j - 1) 0 < xs.getD j 0)
theorem ascF_of {xs : List Int} (h : Asc xs) : ascF xs = true := by
  refine List.all_eq_true.2 fun j hj => ?_
  rw [List.mem_range] at hj
  rcases Nat.eq_zero_or_pos j with rfl | hp
  · rfl
  · have h1 : j - 1 < xs.length := by omega
    have := List.pairwise_iff_getElem.1 h (j - 1) j h1 hj (by omega)
    simp only [Bool.or_eq_true, decide_eq_true_eq]
    exact .inr (by simpa [List.getD, h1, hj] using this)
theorem info_int : (Tryz.prog.info? 3).map (fun i => (i.zero, i.size, i.bytes)) = some (some (.int .i64 0), 1, 8) := by kernel_rfl
theorem below_of_grown {w w' : World} (h : w.grownBy w' none) (B : Nat) (hB : B ≤ w.heap.size) : Below B w w' :=
  ⟨h.os, h.tape, h.output, h.size, fun k hk => h.block k (Nat.lt_of_lt_of_le hk hB) (by simp)⟩
theorem own_lower {w : World} {base base' : Nat} {e : TypeId} {size : Nat} {v : Value} {n : Nat} {xs : List Value} (h : w.ownsRow base' e size v n xs) (hb : base ≤ base') : w.ownsRow base e size v n xs :=
  ⟨h.1, h.2.imp id fun ⟨b, cap, cur, h1, h2, h3⟩ => ⟨b, cap, cur, h1, Nat.le_trans hb h2, h3⟩⟩
theorem cells_ints (w : World) (xs : List Int) : Kn.Cells (Kn.int .i64) w xs (xs.map (Value.int .i64)) := by
  induction xs with
  | nil => rfl
  | cons x xs ih => exact ⟨[.int .i64 x], xs.map (Value.int .i64), rfl, rfl, ih⟩
theorem cells_ints_inv {w : World} {xs : List Int} {cs : List Value} (h : Kn.Cells (Kn.int .i64) w xs cs) : cs = xs.map (Value.int .i64) := by
  induction xs generalizing cs with
  | nil => exact h
  | cons x xs ih => obtain ⟨c0, c1, rfl, h0, h1⟩ := h; rw [ih h1, show c0 = [Value.int .i64 x] from h0]; rfl
theorem made_ints {w : World} {base : Nat} {e : TypeId} {v : Value} {xs : List Int} {n : Nat} (hn : n = xs.length) (hown : w.ownsRow base e 1 v n (xs.map (Value.int .i64))) : Made (Kn.slice (Kn.int .i64)) w base xs [v] := by
  obtain ⟨A, c, _, _, h⟩ := made_slice (d := Kn.int .i64) hn hown Nat.one_pos ((flat_int _).made (cells_ints w xs) w)
  exact h
/-- What comes back: a list of numbers in new memory. -/
def IntsMade (w w' : World) (x : List Int) (A : Option Addr) (c : Nat) : Prop := (x.length ≤ c ∧ c ≤ maxLen) ∧ w'.ownsRow w.heap.size 3 1 (.slice A x.length c) x.length (x.map (Value.int .i64)) ∧ Below w.heap.size w w'
def IntsPost (w : World) (x : List Int) (e : Ending) (w' : World) : Prop := ∃ A c, e = .returned (.slice A x.length c) ∧ IntsMade w w' x A c
theorem IntsPost.mk {w w' : World} {x : List Int} {v : Value} {base n : Nat} (h : w'.ownsRow base 3 1 v n (x.map (Value.int .i64))) (hn : n = x.length) (hbase : w.heap.size ≤ base) (hb : Below w.heap.size w w') : IntsPost w x (.returned v) w' := by
  subst hn
  have h' := own_lower h hbase
  rcases id h'.2 with ⟨rfl, h0⟩ | ⟨b, cap, cur, rfl, _, _, hnc, hcm, _⟩
  · exact ⟨none, 0, by rw [h0], ⟨by omega, Nat.zero_le _⟩, by rw [h0] at *; exact h', hb⟩
  · exact ⟨_, cap, rfl, ⟨hnc, hcm⟩, h', hb⟩
theorem IntsMade.sl {w w' : World} {x : List Int} {A : Option Addr} {c : Nat} (h : IntsMade w w' x A c) : Kn.Sl (Kn.int .i64) w' A x := by
  obtain ⟨A', c', hv, _, hs⟩ := (made_ints rfl h.2.1).K
  simp only [List.cons.injEq, Value.slice.injEq, and_true, true_and] at hv
  obtain ⟨rfl, rfl⟩ := hv
  exact hs
theorem copyInts_any {w : World} {xs : List Int} {A : Option Addr} {c : Nat} (hc : xs.length ≤ c ∧ c ≤ maxLen) (hs : Kn.Sl (Kn.int .i64) w A xs) (hl : xs.length ≤ 1048576) : Calls Tryz.prog 97 #[.slice A xs.length c] w (IntsPost w xs) := by
  obtain ⟨cs, hcs, hr⟩ := hs
  obtain ⟨i0, hi, hz0, hz1, hz2⟩ := info_parts info_int
  go_enter Tryz.func97, Tryz.ntmps97
  go_wp2_with (at_builtin; refine wpList_append_row _ rfl _ _ 32 rfl w.heap.size 3 i0 (.int .i64 0) 1 8 Tryz.underlying32 hi hz0 hz1 hz2 rfl (by decide) (.slice none 0 0) 0 [] rfl (World.ownsRow_nil w _ _ _) A xs.length c cs rfl hr hcs.len hcs.one (by unfold maxLen; omega) (by omega) (Nat.le_refl _) ?_; intro v' w' hown hg hloc)
  go_ret
  rw [cells_ints_inv hcs, Nat.zero_add, List.nil_append] at hown
  exact IntsPost.mk hown rfl (Nat.le_refl _) (below_of_grown hg _ (Nat.le_refl _))
end Go.Proofs.YtdblhmpcilihnaaGreat
