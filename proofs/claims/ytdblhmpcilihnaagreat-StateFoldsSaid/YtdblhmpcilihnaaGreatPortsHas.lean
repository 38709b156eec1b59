/- Walks of what only reads lists of numbers: Has, Contains, Index, Check, EqualInts, ascending. -/
import Derived.Test.YtdblhmpcilihnaaGreatData
import Derived.Test.YtdblhmpcilihnaaGreatRows
import Derived.WalkKit
import Derived.ProofKit
import Derived.Lib.Hide
import Derived.Deep.RegionHeld3
import Derived.Deep.DeepCutAuto
import Derived.Deep.LoopGhost
import Derived.BigQuiet
import Derived.WalkLawsBesides
import Derived.WalkSpells
import Derived.Test.YtdblhmpcilihnaaGreatPortsPure
set_option maxRecDepth 100000
namespace Go.Proofs.YtdblhmpcilihnaaGreat
open Go.ChangeShapes Go.WideShapes Go.ChangeAt Go.RowKit
set_option linter.unusedVariables false
set_option linter.unusedSimpArgs false
theorem contains_of_all {xs : List Int} {p : Int} {k : Nat} (hk : xs.length ≤ k) (h : ∀ j, j < k → xs.getD j 0 ≠ p) : xs.contains p = false := by
  cases hc : xs.contains p
  · rfl
  · obtain ⟨j, hj, e⟩ := List.getElem_of_mem (List.contains_iff_mem.1 hc)
    exact absurd (by simp [List.getD, hj, e]) (h j (by omega))
theorem contains_of_at {xs : List Int} {p : Int} {k : Nat} (hk : k < xs.length) (h : xs.getD k 0 = p) : xs.contains p = true := by
  refine List.contains_iff_mem.2 ?_
  rw [← h]
  simp [List.getD, hk]
set_option maxHeartbeats 1000000 in
theorem refHas_any {w : World} {xs : List Int} {A : Option Addr} {c : Nat} (hc : xs.length ≤ c ∧ c ≤ maxLen) (hs : Kn.Sl (Kn.int .i64) w A xs) (p : Int) :
    Calls Tryz.prog 192 #[.slice A xs.length c, .int .i64 p] w fun e w' => e = .returned (.bool (xs.contains p)) ∧ w = w' := by
  unfold maxLen at hc
  go_enter Tryz.func192, Tryz.ntmps192
  go_wp2_with fail
  go_loopw [5] (fun i wr => ∃ k : Nat, k ≤ xs.length ∧ i = .int .i64 k ∧ (∀ j, j < k → xs.getD j 0 ≠ p) ∧ w = wr) (fun i _ => xs.length - (valInt i).toNat)
  case atStart => exact ⟨0, Nat.zero_le _, rfl, by simp, rfl⟩
  case round =>
    obtain ⟨k, hk, rfl, hne, rfl⟩ := hrel
    by_cases hlt : k < xs.length
    · obtain ⟨b, off, rfl, hb, hcell⟩ := hs.ints (by omega)
      have g := hcell k hlt
      have l0 : (k : Int) < xs.length := by omega
      have l4 : (0 : Int) ≤ k := by omega
      obtain ⟨x, hx⟩ : ∃ x, x = xs.getD k 0 := ⟨_, rfl⟩
      rw [← hx] at g
      have HX := Lib.hid hx
      clear hx hcell
      cases hp : (x == p)
      · go_wp2_with fail
        go_roundw
        case rel => exact ⟨k + 1, by omega, by go_num, fun j hj => by
          rcases Nat.lt_succ_iff_lt_or_eq.1 hj with h | rfl
          · exact hne j h
          · rw [← HX.out]; simpa using hp, by simp⟩
        case measure => simp [valInt]; omega
      · go_wp2_with fail
        go_ret
        exact ⟨by rw [contains_of_at hlt (HX.out ▸ (by simpa using hp))]; rfl, rfl⟩
    · go_wp2_with fail
      go_ret
      exact ⟨by rw [contains_of_all (by omega) hne]; rfl, rfl⟩

/-- slices.Index: the first place, or -1. -/
def idxF (xs : List Int) (p : Int) (r : Int) : Prop := (xs.contains p = true ∧ 0 ≤ r) ∨ (xs.contains p = false ∧ r = -1)
theorem list_eq_of {xs ys : List Int} (hl : xs.length = ys.length) (h : ∀ j, j < xs.length → xs.getD j 0 = ys.getD j 0) : xs = ys := by
  refine List.ext_getElem hl fun j h1 h2 => ?_
  have := h j h1
  simpa [List.getD, h1, h2] using this
set_option maxHeartbeats 1000000 in
theorem equalInts_any {w : World} {xs ys : List Int} {A B : Option Addr} {c d : Nat} (hc : xs.length ≤ c ∧ c ≤ maxLen) (hd : ys.length ≤ d ∧ d ≤ maxLen) (hs : Kn.Sl (Kn.int .i64) w A xs) (ht : Kn.Sl (Kn.int .i64) w B ys) :
    Calls Tryz.prog 55 #[.slice A xs.length c, .slice B ys.length d] w fun e w' => e = .returned (.bool (decide (xs = ys))) ∧ Below w.heap.size w w' := by
  unfold maxLen at hc hd
  by_cases hl : xs.length = ys.length
  · have hli : (xs.length : Int) = ys.length := by omega
    have bq_no : ((xs.length : Int) != ys.length) = false := by simpa using hli
    go_enter Tryz.func55, Tryz.ntmps55
    go_wp2_with fail
    go_loopw [5] (fun i wr => ∃ k : Nat, k ≤ xs.length ∧ i = .int .i64 k ∧ (∀ j, j < k → xs.getD j 0 = ys.getD j 0) ∧ ∃ n, wr = w.drewN n) (fun i _ => xs.length - (valInt i).toNat)
    case atStart => exact ⟨0, Nat.zero_le _, rfl, by simp, 0, rfl⟩
    case round =>
      obtain ⟨k, hk, rfl, heq, n, rfl⟩ := hrel
      by_cases hlt : k < xs.length
      · obtain ⟨b, off, rfl, hb, hcell⟩ := hs.ints (by omega)
        obtain ⟨b2, off2, rfl, hb2, hcell2⟩ := ht.ints (by omega)
        have g := hcell k hlt
        have g2 := hcell2 k (by omega)
        have l0 : (k : Int) < xs.length := by omega
        have l1 : (k : Int) < ys.length := by omega
        have l4 : (0 : Int) ≤ k := by omega
        obtain ⟨x, hx⟩ : ∃ x, x = xs.getD k 0 := ⟨_, rfl⟩
        obtain ⟨y, hy⟩ : ∃ y, y = ys.getD k 0 := ⟨_, rfl⟩
        rw [← hx] at g
        rw [← hy] at g2
        have HX := Lib.hid hx
        have HY := Lib.hid hy
        clear hx hy hcell hcell2
        cases hp : (x != y)
        · go_wp2_with fail
          go_quiet (fail)
          go_wp2_with fail
          go_roundw
          case rel => exact ⟨k + 1, by omega, by go_num, fun j hj => by
            rcases Nat.lt_succ_iff_lt_or_eq.1 hj with h | rfl
            · exact heq j h
            · rw [← HX.out, ← HY.out]; simpa using hp, n + nq, rfl⟩
          case measure => simp [valInt]; omega
        · go_wp2_with fail
          go_quiet (fail)
          go_wp2_with fail
          go_ret
          refine ⟨?_, (by repeat (first | with_reducible exact Below.refl _ _ | with_reducible assumption | with_reducible refine Below.alloc ?_ (by first | omega | (simp; done) | (simp; omega)) _ | with_reducible refine Below.setCell ?_ (by first | omega | (simp; done) | (simp; omega)) _ | with_reducible refine Below.drew ?_ | with_reducible refine below_drewN ?_ _ | with_reducible refine Below.next ?_ (by with_reducible assumption)))⟩
          have hne : ¬ xs = ys := fun e => by
            have h1 := HX.out; have h2 := HY.out
            rw [e, ← h2] at h1
            simp [h1] at hp
          simp [hne]
      · go_wp2_with fail
        go_ret
        refine ⟨?_, (by repeat (first | with_reducible exact Below.refl _ _ | with_reducible assumption | with_reducible refine Below.alloc ?_ (by first | omega | (simp; done) | (simp; omega)) _ | with_reducible refine Below.setCell ?_ (by first | omega | (simp; done) | (simp; omega)) _ | with_reducible refine Below.drew ?_ | with_reducible refine below_drewN ?_ _ | with_reducible refine Below.next ?_ (by with_reducible assumption)))⟩
        rw [list_eq_of hl (fun j hj => heq j (by omega))]; simp
  · have hli : ¬ (xs.length : Int) = ys.length := by omega
    have bq_no : ((xs.length : Int) != ys.length) = true := by simpa using hli
    go_enter Tryz.func55, Tryz.ntmps55
    go_wp2_with fail
    go_ret
    have hne : ¬ xs = ys := fun e => hl (by rw [e])
    exact ⟨by simp [hne], (by repeat (first | with_reducible exact Below.refl _ _ | with_reducible assumption | with_reducible refine Below.alloc ?_ (by first | omega | (simp; done) | (simp; omega)) _ | with_reducible refine Below.setCell ?_ (by first | omega | (simp; done) | (simp; omega)) _ | with_reducible refine Below.drew ?_ | with_reducible refine below_drewN ?_ _ | with_reducible refine Below.next ?_ (by with_reducible assumption)))⟩
end Go.Proofs.YtdblhmpcilihnaaGreat
