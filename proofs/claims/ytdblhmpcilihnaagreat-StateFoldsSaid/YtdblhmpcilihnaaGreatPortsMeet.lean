/- ports.Union and ports.Meet. -/
import Derived.Test.YtdblhmpcilihnaaGreatData
import Derived.Test.YtdblhmpcilihnaaGreatRows
import Derived.WalkKit
import Derived.ProofKit
import Derived.Lib.Hide
import Derived.Deep.RegionHeld3
import Derived.Deep.DeepCutAuto
import Derived.Deep.LoopGhost
import Derived.BigQuiet
import Derived.WalkLawsBesides
import Derived.WalkSpells
import Derived.Test.YtdblhmpcilihnaaGreatPortsSet
import Derived.Test.YtdblhmpcilihnaaGreatPortsSorted
import Derived.Deep.RegionWith
set_option maxRecDepth 100000
namespace Go.Proofs.YtdblhmpcilihnaaGreat
open Go.ChangeShapes Go.WideShapes Go.ChangeAt Go.RowKit
set_option linter.unusedVariables false
set_option linter.unusedSimpArgs false
open Go.Maps
theorem union_any {w : World} {ls : List (List Int)} {L : Option Addr} {c : Nat} (hc : ls.length ≤ c ∧ c ≤ maxLen) (hs : Kn.Sl (Kn.slice (Kn.int .i64)) w L ls) (hl : ls.flatten.length ≤ 1048576)
    (hw : ∀ l ∈ ls, ∀ x ∈ l, (Lit.int .i64 x).wf = true) : Calls Tryz.prog 134 #[.slice L ls.length c] w (IntsPost w (unionF ls)) := by
  go_enter Tryz.func134, Tryz.ntmps134
  go_wp2_with (first
    | (go_at_call 185; refine (set_any hc hs hl hw).mono ?_; rintro e w1 ⟨b, rfl, hbb, hset, hb1⟩)
    | (go_at_call 187; refine (keys_any _ _).mono ?_; rintro e w2 ⟨rfl, rfl⟩)
    | (go_at_call 186; refine (sorted_any hset hl).mono ?_; rintro e w3 ⟨v, rfl, hm, hb3⟩))
  go_ret
  exact IntsPost.mk hm rfl hb1.size (hb1.next hb3)
/-- One list as the argument of set: laid in a new block. -/
theorem one_list {w : World} {xs : List Int} {A : Option Addr} {c : Nat} (hc : xs.length ≤ c ∧ c ≤ maxLen) (hs : Kn.Sl (Kn.int .i64) w A xs) :
    Kn.Sl (Kn.slice (Kn.int .i64)) (w.alloc (.cells #[.slice A xs.length c] 32)) (some ⟨w.heap.size, 0, none⟩) [xs] := by
  refine ⟨[.slice A xs.length c], ⟨[.slice A xs.length c], [], rfl, ⟨A, c, rfl, hc, hs.below ((Below.refl _ w).alloc (Nat.le_refl _) _)⟩, rfl⟩, fun _ => ⟨w.heap.size, 0, rfl, by simp, fun j u hu => ?_⟩⟩
  match j with
  | 0 => simp at hu; subst hu; simp [go_sem]
  | j + 1 => simp at hu
theorem Maps.keyOf_enc {x : Int} {kl : Lit} (h : keyOf Tryz.prog 3 (encZ x) = some kl) : kl = .int .i64 x ∧ (Lit.int .i64 x).wf = true := by
  obtain ⟨x', ex, rfl, hw⟩ := Maps.keyOf_i64 Tryz.underlying3 h
  obtain rfl : x = x' := encZ_inj ex
  exact ⟨rfl, hw⟩
set_option maxHeartbeats 2000000 in
theorem meet_any {w : World} {xs ys : List Int} {A B : Option Addr} {c d : Nat} (hc : xs.length ≤ c ∧ c ≤ maxLen) (hd : ys.length ≤ d ∧ d ≤ maxLen) (hs : Kn.Sl (Kn.int .i64) w A xs) (ht : Kn.Sl (Kn.int .i64) w B ys)
    (hl : xs.length ≤ 1048576) (hl2 : ys.length ≤ 1048576) (hw : ∀ x ∈ xs, (Lit.int .i64 x).wf = true) (hw2 : ∀ x ∈ ys, (Lit.int .i64 x).wf = true) :
    Calls Tryz.prog 133 #[.slice A xs.length c, .slice B ys.length d] w (IntsPost w (meetF xs ys)) := by
  have hm1 : 1 ≤ maxLen := by unfold maxLen; omega
  have hwx : ∀ l ∈ [xs], ∀ x ∈ l, (Lit.int .i64 x).wf = true := fun l hl => by rw [List.mem_singleton.1 hl]; exact hw
  have hwy : ∀ l ∈ [ys], ∀ x ∈ l, (Lit.int .i64 x).wf = true := fun l hl => by rw [List.mem_singleton.1 hl]; exact hw2
  have ho1 := one_list hc hs
  have h11 : [xs].flatten.length ≤ 1048576 := by simpa using hl
  have h12' : [ys].flatten.length ≤ 1048576 := by simpa using hl2
  go_enter Tryz.func133, Tryz.ntmps133
  go_wp2_with (first
    | (go_at_call 185; first
      | (go_at_call_of 185 (w.heap.size); refine (set_any (ls := [xs]) (c := 1) ⟨Nat.le_refl _, hm1⟩ ho1 h11 hwx).mono ?_; rintro e w1 ⟨b1, rfl, hbb1, hset1, hB1⟩; have hb1 := (((Below.refl _ w).alloc (Nat.le_refl _) _)).next hB1; have ho2 := one_list hd (ht.below hb1))
      | (go_at_call_of 185 (w1.heap.size); refine (set_any (ls := [ys]) (c := 1) ⟨Nat.le_refl _, hm1⟩ ho2 h12' hwy).mono ?_; rintro e w2 ⟨b2, rfl, hbb2, hset2, hB2⟩; have hb2 := (((Below.refl _ w1).alloc (Nat.le_refl _) _)).next hB2; have ho3 := one_list hc (hs.below (hb1.next hb2)))
      | (go_at_call_of 185 (w2.heap.size); refine (set_any (ls := [xs]) (c := 1) ⟨Nat.le_refl _, hm1⟩ ho3 h11 hwx).mono ?_; rintro e w3 ⟨b3, rfl, hbb3, ⟨D3, hown3, hS3⟩, hB3⟩; have hb3 := (((Below.refl _ w2).alloc (Nat.le_refl _) _)).next hB3))
    | (at_range; refine wpList_range_own _ rfl _ 65 rfl 3 4 keyedInt Tryz.underlying65 _ b3 _ _ rfl hown3 ?_; intro w4 hrg hg4 hz4))
  go_frame
  simp only [List.flatten_cons, List.flatten_nil, List.append_nil] at hset1 hset2 hS3 hown3 hrg
  have hset1' := (hset1.below (hb2.next hb3)).kept hg4 (by simp)
  have hset2' := (hset2.below hb3).kept hg4 (by simp)
  have hlt1 := hset1.lt
  have hlt2 := hset2.lt
  have hz2 := hb2.size
  have hz3 := hb3.size
  have hz1 := hb1.size
  simp at hbb1 hbb2 hbb3
  have hB4 : Below w.heap.size w w4 := ((hb1.next hb2).next hb3).grown hg4 (by omega) (fun j hj => by cases hj)
  have hit : w.heap.size ≤ w3.heap.size ∧ b1 < w3.heap.size ∧ b2 < w3.heap.size ∧ b1 ≠ b2 ∧ b3 ≠ b1 ∧ w.heap.size ≤ b1 := by omega
  obtain ⟨it, hite⟩ : ∃ it, it = w3.heap.size := ⟨_, rfl⟩
  rw [← hite] at hit hrg ⊢
  obtain ⟨hi0, hi1, hi2, h12, h31, hwb1⟩ := hit
  have hm3 : ∀ x, has D3 (.int .i64 x) = decide (x ∈ xs) := fun x => (hS3.2 x).1
  clear hset1 hset2 hown3 hS3 hbb2 hbb3 hz1 hz2 hz3 hlt1 hlt2 hB1 hB2 hB3 hb1 hb2 hb3 hg4 hz4 ho1 ho2 ho3 hite
  go_loopw [7] (fun _ wr => ∃ (left : Lit → Bool) (cnt : Nat) (S : List Int), wr.ranges Tryz.prog 3 (plainElem Tryz.prog 4) b3 it xs.length D3 left cnt ∧ SetAt wr b2 ys.length ys ∧ SetAt wr b1 xs.length S ∧
      (∀ x, x ∈ S ↔ x ∈ xs ∧ (left (.int .i64 x) = true ∨ x ∈ ys)) ∧ Below w.heap.size w wr)
    (fun _ wr => wr.rangeLeft b3 it)
  case atStart => exact ⟨_, _, xs, hrg, hset2', hset1', fun x => by rw [hm3]; simp; exact fun h => .inl h, hB4⟩
  case round =>
    obtain ⟨left, cnt, S, hrg, hset2, hset1, hS, hB⟩ := hrel
    go_wp2_with (at_next; refine wpList_next_ranges _ rfl _ rfl 3 keyedInt (plainElem Tryz.prog 4) encZ id (fun key kl hk => by obtain ⟨x, hx, _⟩ := Maps.keyOf_i64 Tryz.underlying3 hk; exact ⟨x, hx⟩) (fun v _ _ => ⟨v, rfl⟩) b3 it _ _ _ _ rfl hrg ?_ ?_)
    · intro hc0 hl0
      have hfin : ∀ x, x ∈ S ↔ x ∈ xs.filter fun x => ys.contains x := fun x => by rw [hS, hl0]; simp
      have hset := hset1.ext hfin
      go_wp2_with (first
        | (go_at_call 187; refine (keys_any _ _).mono ?_; rintro e w5 ⟨rfl, rfl⟩)
        | (go_at_call 186; refine (sorted_any hset hl).mono ?_; rintro e w6 ⟨v, rfl, hm, hb6⟩))
      go_ret
      exact IntsPost.mk hm rfl hB.size (hB.next hb6)
    · intro x cv kl y yp w5 cnt5 hkey hlk hv hat hrg5 hlt5 hg5 hz5 hen
      obtain ⟨rfl, hwx5⟩ := Maps.keyOf_enc hkey
      have hs2 := hset2.kept hg5 (by simp; omega)
      have hs1 := hset1.kept hg5 (by simp; omega)
      have hB5 := hB.grown hg5 (by have := hB.size; omega) (fun j hj => by cases hj; exact hi0)
      have hxs : x ∈ xs := by
        have h1 : has D3 (.int .i64 x) = true := has_true_of_atKey hat
        rw [hm3] at h1; simpa using h1
      clear hkey hat hv
      by_cases hxy : x ∈ ys
      · go_wp2_with (first
          | (at_lookup; refine wpList_look_set rfl _ _ rfl rfl hs2 x hwx5 rfl ?_))
        go_roundw
        case rel => exact ⟨_, cnt5, S, hrg5, hs2, hs1, fun z => by
          rw [hS]
          by_cases hz : z = x
          · subst hz; simp [hxy]
          · simp [Lit.sameKey, hz], hB5⟩
        case measure => rw [hrg5.left_eq, hrg.left_eq]; exact hlt5
      · go_wp2_with (first
          | (at_lookup; refine wpList_look_set rfl _ _ rfl rfl hs2 x hwx5 rfl ?_)
          | (at_delete; refine wpList_del_set rfl _ _ rfl rfl hs1 x hwx5 rfl ?_; intro w6 hs6 hg6))
        have hrg6 := hrg5.kept hg6 (by simp; omega) (by simp; omega)
        go_frame
        go_roundw
        case rel => exact ⟨_, cnt5, _, hrg6, hs2.kept hg6 (by simp; omega), hs6, fun z => by
          rw [List.mem_filter, hS]
          by_cases hz : z = x
          · subst hz; simp [hxy]; simp [Lit.sameKey]
          · simp [Lit.sameKey, hz], hB5.grown hg6 (by have := hB5.size; omega) (fun j hj => by cases hj; exact hwb1)⟩
        case measure => rw [hrg6.left_eq, hrg.left_eq]; exact hlt5
end Go.Proofs.YtdblhmpcilihnaaGreat
