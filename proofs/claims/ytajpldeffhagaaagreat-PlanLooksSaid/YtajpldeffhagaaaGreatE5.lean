/- The reference's starts (layer 12). -/
import Derived.Test.YtajpldeffhagaaaGreatE4
namespace Go.Proofs.YtajpldeffhagaaaGreat
open Go.RowKit E
set_option maxRecDepth 100000
set_option linter.unusedVariables false
set_option linter.unusedSimpArgs false
def goodAt (l : List Int) (j : Nat) : Prop := (0 ≤ l.getD j 0 ∧ l.getD j 0 ≤ 1099511627776) ∧ (0 < j → l.getD (j - 1) 0 ≤ l.getD j 0)
def scan (l : List Int) : Nat → Nat → Int
  | 0, _ => 0
  | n + 1, k => if ¬ (0 ≤ l.getD k 0 ∧ l.getD k 0 ≤ 1099511627776) then 3 else if 0 < k ∧ l.getD k 0 < l.getD (k - 1) 0 then 13 else scan l n (k + 1)
theorem scan_zero (l : List Int) : ∀ n k, scan l n k = 0 ↔ ∀ j, k ≤ j → j < k + n → goodAt l j
  | 0, k => ⟨fun _ j h1 h2 => by omega, fun _ => rfl⟩
  | n + 1, k => by
    unfold scan
    by_cases c : 0 ≤ l.getD k 0 ∧ l.getD k 0 ≤ 1099511627776
    · rw [if_neg (not_not_intro c)]
      by_cases d : 0 < k ∧ l.getD k 0 < l.getD (k - 1) 0
      · rw [if_pos d]
        exact ⟨fun h => absurd h (by decide), fun h => by have := (h k (Nat.le_refl _) (by omega)).2 d.1; omega⟩
      · rw [if_neg d, scan_zero l n (k + 1)]
        refine ⟨fun h j h1 h2 => ?_, fun h j h1 h2 => h j (by omega) (by omega)⟩
        rcases Nat.eq_or_lt_of_le h1 with rfl | h3
        · exact ⟨c, fun h4 => by omega⟩
        · exact h j h3 (by omega)
    · rw [if_pos c]
      exact ⟨fun h => absurd h (by decide), fun h => absurd (h k (Nat.le_refl _) (by omega)).1 c⟩
theorem wrapP {n : Nat} (h0 : 0 < n) (h : n < 9223372036854775807) : IntKind.i64.wrap ((n : Int) - 1) = ((n - 1 : Nat) : Int) := by
  unfold IntKind.wrap IntKind.signed IntKind.bits; simp; omega
theorem starts_p (l : List Int) : Pure Tryz.prog 73 [slI l] (I (scan l l.length 0)) := by
  refine Pure.ev Tryz.f73 mx Tryz.func73 (by kernel_rfl) rfl rfl rfl ?_ <;> (conv => whnf) <;> repeat (first | (refine SeqW.go ?_ <;> (conv => whnf)) | (refine And.intro trivial ?_ <;> (conv => whnf)) | (refine And.intro (And.intro (Nat.le_of_ble_eq_true rfl) (Nat.le_of_ble_eq_true rfl)) ?_ <;> (conv => whnf)) | (refine And.intro (And.intro (Nat.le_of_ble_eq_true rfl) (oneRows_of rfl)) ?_ <;> (conv => whnf)) | (refine And.intro (And.intro (Nat.eq_of_beq_eq_true rfl) (And.intro (oneRows_of rfl) (Nat.le_of_ble_eq_true rfl))) ?_ <;> (conv => whnf)) | (refine And.intro (Nat.le_of_ble_eq_true rfl) ?_ <;> (conv => whnf)) | (refine And.intro (And.intro (by omega) (by omega)) ?_ <;> (conv => whnf)) | (refine And.intro (by omega) ?_ <;> (conv => whnf)) | (refine And.intro (And.intro (by decide) (by decide)) ?_ <;> (conv => whnf)) | (intro _ <;> (conv => whnf)) | (refine And.intro rfl ?_ <;> (conv => whnf)) | (refine onB_t (by with_reducible assumption) ?_ <;> (conv => whnf)) | (refine onB_f (by with_reducible assumption) ?_ <;> (conv => whnf)))
  refine loop_st (S := Nat) (fun k => [(0, slI l), (3, I k)]) (fun _ => ⟨0, []⟩) (fun k => k ≤ l.length ∧ scan l l.length 0 = scan l (l.length - k) k) (fun k => l.length - k) 0
    (Wk.sub ⟨rfl, rfl, trivial⟩) ⟨Nat.zero_le _, rfl⟩ ?_
  rintro k ⟨hk, hs⟩
  (conv => whnf) <;> repeat (first | (refine SeqW.go ?_ <;> (conv => whnf)) | (refine And.intro trivial ?_ <;> (conv => whnf)) | (refine And.intro (And.intro (Nat.le_of_ble_eq_true rfl) (Nat.le_of_ble_eq_true rfl)) ?_ <;> (conv => whnf)) | (refine And.intro (And.intro (Nat.le_of_ble_eq_true rfl) (oneRows_of rfl)) ?_ <;> (conv => whnf)) | (refine And.intro (And.intro (Nat.eq_of_beq_eq_true rfl) (And.intro (oneRows_of rfl) (Nat.le_of_ble_eq_true rfl))) ?_ <;> (conv => whnf)) | (refine And.intro (Nat.le_of_ble_eq_true rfl) ?_ <;> (conv => whnf)) | (refine And.intro (And.intro (by omega) (by omega)) ?_ <;> (conv => whnf)) | (refine And.intro (by omega) ?_ <;> (conv => whnf)) | (refine And.intro (And.intro (by decide) (by decide)) ?_ <;> (conv => whnf)) | (intro _ <;> (conv => whnf)) | (refine And.intro rfl ?_ <;> (conv => whnf)) | (refine onB_t (by with_reducible assumption) ?_ <;> (conv => whnf)) | (refine onB_f (by with_reducible assumption) ?_ <;> (conv => whnf)))
  refine onB_mk (fun h => ?_) (fun h => ?_) <;> (try rw [h]) <;> (try simp only [decide_eq_true_eq, decide_eq_false_iff_not, beq_iff_eq, beq_eq_false_iff_ne, bne_iff_ne, bne_eq_false_iff_eq, ne_eq, Int.not_lt, Int.not_le, gt_iff_lt, ge_iff_le, Int.ofNat_lt, Int.natCast_inj] at h) <;> (conv => whnf) <;> repeat (first | (refine SeqW.go ?_ <;> (conv => whnf)) | (refine And.intro trivial ?_ <;> (conv => whnf)) | (refine And.intro (And.intro (Nat.le_of_ble_eq_true rfl) (Nat.le_of_ble_eq_true rfl)) ?_ <;> (conv => whnf)) | (refine And.intro (And.intro (Nat.le_of_ble_eq_true rfl) (oneRows_of rfl)) ?_ <;> (conv => whnf)) | (refine And.intro (And.intro (Nat.eq_of_beq_eq_true rfl) (And.intro (oneRows_of rfl) (Nat.le_of_ble_eq_true rfl))) ?_ <;> (conv => whnf)) | (refine And.intro (Nat.le_of_ble_eq_true rfl) ?_ <;> (conv => whnf)) | (refine And.intro (And.intro (by omega) (by omega)) ?_ <;> (conv => whnf)) | (refine And.intro (by omega) ?_ <;> (conv => whnf)) | (refine And.intro (And.intro (by decide) (by decide)) ?_ <;> (conv => whnf)) | (intro _ <;> (conv => whnf)) | (refine And.intro rfl ?_ <;> (conv => whnf)) | (refine onB_t (by with_reducible assumption) ?_ <;> (conv => whnf)) | (refine onB_f (by with_reducible assumption) ?_ <;> (conv => whnf)))
  · refine Pure.call (tick_p _) ?_ <;> (conv => whnf) <;> repeat (first | (refine SeqW.go ?_ <;> (conv => whnf)) | (refine And.intro trivial ?_ <;> (conv => whnf)) | (refine And.intro (And.intro (Nat.le_of_ble_eq_true rfl) (Nat.le_of_ble_eq_true rfl)) ?_ <;> (conv => whnf)) | (refine And.intro (And.intro (Nat.le_of_ble_eq_true rfl) (oneRows_of rfl)) ?_ <;> (conv => whnf)) | (refine And.intro (And.intro (Nat.eq_of_beq_eq_true rfl) (And.intro (oneRows_of rfl) (Nat.le_of_ble_eq_true rfl))) ?_ <;> (conv => whnf)) | (refine And.intro (Nat.le_of_ble_eq_true rfl) ?_ <;> (conv => whnf)) | (refine And.intro (And.intro (by omega) (by omega)) ?_ <;> (conv => whnf)) | (refine And.intro (by omega) ?_ <;> (conv => whnf)) | (refine And.intro (And.intro (by decide) (by decide)) ?_ <;> (conv => whnf)) | (intro _ <;> (conv => whnf)) | (refine And.intro rfl ?_ <;> (conv => whnf)) | (refine onB_t (by with_reducible assumption) ?_ <;> (conv => whnf)) | (refine onB_f (by with_reducible assumption) ?_ <;> (conv => whnf)))
    refine onB_mk (fun h => ?_) (fun h => ?_) <;> (try rw [h]) <;> (try simp [-List.getD_eq_getElem?_getD, wl, List.getD_cons_zero, List.getD_cons_succ] at h) <;> (conv => whnf) <;> repeat (first | (refine SeqW.go ?_ <;> (conv => whnf)) | (refine And.intro trivial ?_ <;> (conv => whnf)) | (refine And.intro (And.intro (Nat.le_of_ble_eq_true rfl) (Nat.le_of_ble_eq_true rfl)) ?_ <;> (conv => whnf)) | (refine And.intro (And.intro (Nat.le_of_ble_eq_true rfl) (oneRows_of rfl)) ?_ <;> (conv => whnf)) | (refine And.intro (And.intro (Nat.eq_of_beq_eq_true rfl) (And.intro (oneRows_of rfl) (Nat.le_of_ble_eq_true rfl))) ?_ <;> (conv => whnf)) | (refine And.intro (Nat.le_of_ble_eq_true rfl) ?_ <;> (conv => whnf)) | (refine And.intro (And.intro (by omega) (by omega)) ?_ <;> (conv => whnf)) | (refine And.intro (by omega) ?_ <;> (conv => whnf)) | (refine And.intro (And.intro (by decide) (by decide)) ?_ <;> (conv => whnf)) | (intro _ <;> (conv => whnf)) | (refine And.intro rfl ?_ <;> (conv => whnf)) | (refine onB_t (by with_reducible assumption) ?_ <;> (conv => whnf)) | (refine onB_f (by with_reducible assumption) ?_ <;> (conv => whnf)))
    · refine ret_now _ ?_
      rw [hs, show l.length - k = (l.length - (k + 1)) + 1 by omega]
      unfold scan
      rw [if_pos (by intro hh; omega)]
    · have hc : 0 ≤ l.getD k 0 ∧ l.getD k 0 ≤ 1099511627776 := h
      have hw : ∀ m, ((m : Nat) : Int).toNat = m := fun m => Int.toNat_natCast m
      have hnext : ¬ (0 < k ∧ l.getD k 0 < l.getD (k - 1) 0) → k + 1 ≤ l.length ∧ scan l l.length 0 = scan l (l.length - (k + 1)) (k + 1) := fun hn => by
        refine ⟨by omega, ?_⟩
        rw [hs, show l.length - k = (l.length - (k + 1)) + 1 by omega]
        show scan l (l.length - (k + 1) + 1) k = _
        conv => lhs; unfold scan
        rw [if_neg (not_not_intro hc), if_neg hn]
      refine onB_mk (fun h => ?_) (fun h => ?_) <;> (try rw [h]) <;> (try simp only [decide_eq_true_eq, decide_eq_false_iff_not, beq_iff_eq, beq_eq_false_iff_ne, bne_iff_ne, bne_eq_false_iff_eq, ne_eq, Int.not_lt, Int.not_le, gt_iff_lt, ge_iff_le, Int.ofNat_lt, Int.natCast_inj] at h) <;> (conv => whnf) <;> repeat (first | (refine SeqW.go ?_ <;> (conv => whnf)) | (refine And.intro trivial ?_ <;> (conv => whnf)) | (refine And.intro (And.intro (Nat.le_of_ble_eq_true rfl) (Nat.le_of_ble_eq_true rfl)) ?_ <;> (conv => whnf)) | (refine And.intro (And.intro (Nat.le_of_ble_eq_true rfl) (oneRows_of rfl)) ?_ <;> (conv => whnf)) | (refine And.intro (And.intro (Nat.eq_of_beq_eq_true rfl) (And.intro (oneRows_of rfl) (Nat.le_of_ble_eq_true rfl))) ?_ <;> (conv => whnf)) | (refine And.intro (Nat.le_of_ble_eq_true rfl) ?_ <;> (conv => whnf)) | (refine And.intro (And.intro (by omega) (by omega)) ?_ <;> (conv => whnf)) | (refine And.intro (by omega) ?_ <;> (conv => whnf)) | (refine And.intro (And.intro (by decide) (by decide)) ?_ <;> (conv => whnf)) | (intro _ <;> (conv => whnf)) | (refine And.intro rfl ?_ <;> (conv => whnf)) | (refine onB_t (by with_reducible assumption) ?_ <;> (conv => whnf)) | (refine onB_f (by with_reducible assumption) ?_ <;> (conv => whnf)))
      · rw [wrapP (by omega) (by omega)]
        (conv => whnf) <;> repeat (first | (refine SeqW.go ?_ <;> (conv => whnf)) | (refine And.intro trivial ?_ <;> (conv => whnf)) | (refine And.intro (And.intro (Nat.le_of_ble_eq_true rfl) (Nat.le_of_ble_eq_true rfl)) ?_ <;> (conv => whnf)) | (refine And.intro (And.intro (Nat.le_of_ble_eq_true rfl) (oneRows_of rfl)) ?_ <;> (conv => whnf)) | (refine And.intro (And.intro (Nat.eq_of_beq_eq_true rfl) (And.intro (oneRows_of rfl) (Nat.le_of_ble_eq_true rfl))) ?_ <;> (conv => whnf)) | (refine And.intro (Nat.le_of_ble_eq_true rfl) ?_ <;> (conv => whnf)) | (refine And.intro (And.intro (by omega) (by omega)) ?_ <;> (conv => whnf)) | (refine And.intro (by omega) ?_ <;> (conv => whnf)) | (refine And.intro (And.intro (by decide) (by decide)) ?_ <;> (conv => whnf)) | (intro _ <;> (conv => whnf)) | (refine And.intro rfl ?_ <;> (conv => whnf)) | (refine onB_t (by with_reducible assumption) ?_ <;> (conv => whnf)) | (refine onB_f (by with_reducible assumption) ?_ <;> (conv => whnf)))
        refine onB_mk (fun h => ?_) (fun h => ?_) <;> (try rw [h]) <;> (try simp only [decide_eq_true_eq, decide_eq_false_iff_not, beq_iff_eq, beq_eq_false_iff_ne, bne_iff_ne, bne_eq_false_iff_eq, ne_eq, Int.not_lt, Int.not_le, gt_iff_lt, ge_iff_le, Int.ofNat_lt, Int.natCast_inj] at h) <;> (conv => whnf) <;> repeat (first | (refine SeqW.go ?_ <;> (conv => whnf)) | (refine And.intro trivial ?_ <;> (conv => whnf)) | (refine And.intro (And.intro (Nat.le_of_ble_eq_true rfl) (Nat.le_of_ble_eq_true rfl)) ?_ <;> (conv => whnf)) | (refine And.intro (And.intro (Nat.le_of_ble_eq_true rfl) (oneRows_of rfl)) ?_ <;> (conv => whnf)) | (refine And.intro (And.intro (Nat.eq_of_beq_eq_true rfl) (And.intro (oneRows_of rfl) (Nat.le_of_ble_eq_true rfl))) ?_ <;> (conv => whnf)) | (refine And.intro (Nat.le_of_ble_eq_true rfl) ?_ <;> (conv => whnf)) | (refine And.intro (And.intro (by omega) (by omega)) ?_ <;> (conv => whnf)) | (refine And.intro (by omega) ?_ <;> (conv => whnf)) | (refine And.intro (And.intro (by decide) (by decide)) ?_ <;> (conv => whnf)) | (intro _ <;> (conv => whnf)) | (refine And.intro rfl ?_ <;> (conv => whnf)) | (refine onB_t (by with_reducible assumption) ?_ <;> (conv => whnf)) | (refine onB_f (by with_reducible assumption) ?_ <;> (conv => whnf)))
        · simp only [hw] at h
          refine ret_now _ ?_
          rw [hs, show l.length - k = (l.length - (k + 1)) + 1 by omega]
          unfold scan
          rw [if_neg (not_not_intro hc), if_pos ⟨by omega, h⟩]
        · rw [hw, hw] at h
          exact ⟨k + 1, by omega, hnext (by omega), Wk.sub ⟨rfl, by simp only [← wrapS (show k < 9223372036854775807 by omega)]; rfl, trivial⟩⟩
      · exact ⟨k + 1, by omega, hnext (by omega), Wk.sub ⟨rfl, by simp only [← wrapS (show k < 9223372036854775807 by omega)]; rfl, trivial⟩⟩
  · refine ret_now _ ?_
    rw [hs, show l.length - k = 0 by omega]; rfl
end Go.Proofs.YtajpldeffhagaaaGreat
