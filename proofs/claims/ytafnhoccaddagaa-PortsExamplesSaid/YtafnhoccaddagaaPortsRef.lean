/- The reference's Meet and Union. -/
import Derived.Test.YtafnhoccaddagaaData
import Derived.Test.YtafnhoccaddagaaRows
import Derived.WalkKit
import Derived.ProofKit
import Derived.Lib.Hide
import Derived.Deep.RegionHeld3
import Derived.Deep.DeepCutAuto
import Derived.Deep.LoopGhost
import Derived.BigQuiet
import Derived.WalkLawsBesides
import Derived.WalkSpells
import Derived.Test.YtafnhoccaddagaaPortsWith
import Derived.Test.YtafnhoccaddagaaPortsSet
import Derived.Test.YtafnhoccaddagaaPortsSorted
namespace Go.Proofs.Ytafnhoccaddagaa
open Go.ChangeShapes Go.WideShapes Go.ChangeAt Go.RowKit
set_option linter.unusedVariables false
set_option linter.unusedSimpArgs false
def OutAt (w : World) (x : List Int) (v : Value) (wr : World) : Prop := wr.ownsRow w.heap.size 3 1 v x.length (x.map (Value.int .i64)) ∧ Below w.heap.size w wr
theorem OutAt.start (w : World) : OutAt w [] (.slice none 0 0) w := ⟨World.ownsRow_nil _ _ _ _, Below.refl _ _⟩
theorem OutAt.post {w wr : World} {x : List Int} {v : Value} (h : OutAt w x v wr) : IntsPost w x (.returned v) wr := IntsPost.mk h.1 rfl (Nat.le_refl _) h.2
set_option maxHeartbeats 2000000 in
theorem refMeet_any {w : World} {xs ys : List Int} {A B : Option Addr} {c d : Nat} (hc : xs.length ≤ c ∧ c ≤ maxLen) (hd : ys.length ≤ d ∧ d ≤ maxLen) (hs : Kn.Sl (Kn.int .i64) w A xs) (ht : Kn.Sl (Kn.int .i64) w B ys) (hl : xs.length ≤ 1048576) :
    Calls Try.prog 12 #[.slice A xs.length c, .slice B ys.length d] w (IntsPost w (meetF xs ys)) := by
  have hc' := hc
  unfold maxLen at hc
  go_enter Try.func12, Try.ntmps12
  go_wp2_with fail
  go_loopw [5, 6] (fun v i wr => ∃ k : Nat, k ≤ xs.length ∧ i = .int .i64 k ∧ OutAt w (meetF (xs.take k) ys) v wr) (fun _ i _ => xs.length - (valInt i).toNat)
  case atStart => exact ⟨0, Nat.zero_le _, rfl, OutAt.start w⟩
  case round =>
    obtain ⟨k, hk, rfl, hout⟩ := hrel
    by_cases hlt : k < xs.length
    · obtain ⟨b, off, rfl, hb, hcell⟩ := hs.ints (by omega)
      have g := (hout.2.cell (p := ⟨b, off + k, none⟩) hb).trans (hcell k hlt)
      have l0 : (k : Int) < xs.length := by omega
      have l4 : (0 : Int) ≤ k := by omega
      have htk : xs.take (k + 1) = xs.take k ++ [xs.getD k 0] := take_snoc hlt
      have hlm : (meetF (xs.take k) ys).length ≤ 1048576 := by have := meetF_length (xs.take k) ys; simp at this; omega
      obtain ⟨x, hx⟩ : ∃ x, x = xs.getD k 0 := ⟨_, rfl⟩
      rw [← hx] at g htk
      have hms := meetF_snoc (xs.take k) ys x
      rw [← htk] at hms
      have ht' := ht.below hout.2
      obtain ⟨M, hM⟩ : ∃ M, M = meetF (xs.take k) ys := ⟨_, rfl⟩
      rw [← hM] at hms hout hlm
      have HM := Lib.hid hms
      clear hcell hx htk hms hM
      have hz := hout.2.size
      by_cases hxy : x ∈ ys
      · rw [if_pos hxy] at HM
        go_wp2_with (first
          | (go_at_call 16; refine (refHas_any hd ht' x).mono ?_; rintro e w' ⟨rfl, rfl⟩)
          | (go_at_call 24; refine (with_any hout.1 hz hlm x).mono ?_; rintro e w1 ⟨v1, rfl, ho1, hb1⟩))
        go_roundw
        case rel => exact ⟨k + 1, by omega, by go_num, by rw [HM.out]; exact ⟨ho1, hout.2.next hb1⟩⟩
        case measure => simp [valInt]; omega
      · rw [if_neg hxy] at HM
        go_wp2_with (first
          | (go_at_call 16; refine (refHas_any hd ht' x).mono ?_; rintro e w' ⟨rfl, rfl⟩))
        go_roundw
        case rel => exact ⟨k + 1, by omega, by go_num, by rw [HM.out]; exact hout⟩
        case measure => simp [valInt]; omega
    · obtain rfl : k = xs.length := by omega
      rw [List.take_length] at hout
      go_wp2_with fail
      go_ret
      exact hout.post
set_option maxHeartbeats 2000000 in
theorem refUnion_any {w : World} {ls : List (List Int)} {L : Option Addr} {c : Nat} (hc : ls.length ≤ c ∧ c ≤ maxLen) (hs : Kn.Sl (Kn.slice (Kn.int .i64)) w L ls) (hl : ls.flatten.length ≤ 1048576) :
    Calls Try.prog 19 #[.slice L ls.length c] w (IntsPost w (unionF ls)) := by
  unfold maxLen at hc
  go_enter Try.func19, Try.ntmps19
  go_wp2_with fail
  go_loopw [3, 4] (fun v i wr => ∃ k : Nat, k ≤ ls.length ∧ i = .int .i64 k ∧ OutAt w (norm (ls.take k).flatten) v wr) (fun _ i _ => ls.length - (valInt i).toNat)
  case atStart => exact ⟨0, Nat.zero_le _, rfl, OutAt.start w⟩
  case round =>
    obtain ⟨k, hk, rfl, hout⟩ := hrel
    by_cases hlt : k < ls.length
    · obtain ⟨b0, off, c0, rfl, hbl, hK0, hcell⟩ := hs.at_ Nat.one_pos (List.getElem?_eq_getElem hlt)
      have htf := take_flatten hlt
      have htl := take_flatten_le ls (k + 1)
      obtain ⟨l, hel⟩ : ∃ l, l = ls[k] := ⟨_, rfl⟩
      rw [← hel] at hK0 htf
      obtain ⟨A, cc, rfl, hcc, hs1⟩ := hK0
      have g0 : w.cell? ⟨b0, off + k, none⟩ = some (.slice A l.length cc) := by
        have h1 := hcell 0 _ rfl
        simpa only [Kn.slice, Nat.mul_one, Nat.add_zero] using h1
      have l0 : (k : Int) < ls.length := by omega
      have l4 : (0 : Int) ≤ k := by omega
      clear hcell hel
      unfold maxLen at hcc
      rw [htf, List.length_append] at htl
      have HTF := Lib.hid htf
      clear htf
      obtain ⟨P, hP⟩ : ∃ P, P = (ls.take k).flatten := ⟨_, rfl⟩
      rw [← hP] at htl hout
      have HP := Lib.hid hP
      clear hP
      go_wp2_with fail
      go_loopw [3, 5] (fun v i wr => ∃ q : Nat, q ≤ l.length ∧ i = .int .i64 q ∧ OutAt w (norm (P ++ l.take q)) v wr) (fun _ i _ => l.length - (valInt i).toNat)
      case atStart => exact ⟨0, Nat.zero_le _, rfl, by simpa using hout⟩
      case round =>
        obtain ⟨q, hq, rfl, hout2⟩ := hrel
        have g := (hout2.2.cell (p := ⟨b0, off + k, none⟩) hbl).trans g0
        by_cases hlq : q < l.length
        · obtain ⟨b1, off1, rfl, hb1, hcell1⟩ := hs1.ints (by omega)
          have g1 := (hout2.2.cell (p := ⟨b1, off1 + q, none⟩) hb1).trans (hcell1 q hlq)
          have m0 : (q : Int) < l.length := by omega
          have m4 : (0 : Int) ≤ q := by omega
          have hts := take_snoc hlq
          have hlm : (norm (P ++ l.take q)).length ≤ 1048576 := by have := length_norm (P ++ l.take q); simp at this; omega
          obtain ⟨x, hx⟩ : ∃ x, x = l.getD q 0 := ⟨_, rfl⟩
          rw [← hx] at g1 hts
          have hns := norm_snoc (P ++ l.take q) x
          rw [List.append_assoc, ← hts] at hns
          obtain ⟨M, hM⟩ : ∃ M, M = norm (P ++ l.take q) := ⟨_, rfl⟩
          rw [← hM] at hns hout2 hlm
          have HM := Lib.hid hns
          clear hcell1 hx hts hns hM g0
          have hz := hout2.2.size
          go_wp2_with (first
            | (go_at_call 24; refine (with_any hout2.1 hz hlm x).mono ?_; rintro e w1 ⟨v1, rfl, ho1, hb1⟩))
          go_roundw
          case rel => exact ⟨q + 1, by omega, by go_num, by rw [HM.out]; exact ⟨ho1, hout2.2.next hb1⟩⟩
          case measure => simp [valInt]; omega
        · obtain rfl : q = l.length := by omega
          rw [List.take_length] at hout2
          clear g0
          go_wp2_with fail
          go_roundw
          case rel => exact ⟨k + 1, by omega, by go_num, by rw [HTF.out, ← HP.out]; exact hout2⟩
          case measure => simp [valInt]; omega
    · obtain rfl : k = ls.length := by omega
      rw [List.take_length] at hout
      go_wp2_with fail
      go_ret
      exact hout.post
end Go.Proofs.Ytafnhoccaddagaa
