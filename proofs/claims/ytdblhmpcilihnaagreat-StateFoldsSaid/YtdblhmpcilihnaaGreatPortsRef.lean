/- The reference's Meet and Union. -/
import Derived.Test.YtdblhmpcilihnaaGreatData
import Derived.Test.YtdblhmpcilihnaaGreatRows
import Derived.WalkKit
import Derived.ProofKit
import Derived.Lib.Hide
import Derived.Deep.RegionHeld3
import Derived.Deep.DeepCutAuto
import Derived.Deep.LoopGhost
import Derived.BigQuiet
import Derived.WalkLawsBesides
import Derived.WalkSpells
import Derived.Test.YtdblhmpcilihnaaGreatPortsWith
import Derived.Test.YtdblhmpcilihnaaGreatPortsSet
import Derived.Test.YtdblhmpcilihnaaGreatPortsSorted
set_option maxRecDepth 100000
namespace Go.Proofs.YtdblhmpcilihnaaGreat
open Go.ChangeShapes Go.WideShapes Go.ChangeAt Go.RowKit
set_option linter.unusedVariables false
set_option linter.unusedSimpArgs false
def OutAt (w : World) (x : List Int) (v : Value) (wr : World) : Prop := wr.ownsRow w.heap.size 3 1 v x.length (x.map (Value.int .i64)) ∧ Below w.heap.size w wr
theorem OutAt.start (w : World) : OutAt w [] (.slice none 0 0) w := ⟨World.ownsRow_nil _ _ _ _, Below.refl _ _⟩
theorem OutAt.post {w wr : World} {x : List Int} {v : Value} (h : OutAt w x v wr) : IntsPost w x (.returned v) wr := IntsPost.mk h.1 rfl (Nat.le_refl _) h.2
set_option maxHeartbeats 2000000 in
theorem refMeet_any {w : World} {xs ys : List Int} {A B : Option Addr} {c d : Nat} (hc : xs.length ≤ c ∧ c ≤ maxLen) (hd : ys.length ≤ d ∧ d ≤ maxLen) (hs : Kn.Sl (Kn.int .i64) w A xs) (ht : Kn.Sl (Kn.int .i64) w B ys) (hl : xs.length ≤ 1048576) :
    Calls Tryz.prog 144 #[.slice A xs.length c, .slice B ys.length d] w (IntsPost w (meetF xs ys)) := by
  have hc' := hc
  unfold maxLen at hc
  go_enter Tryz.func144, Tryz.ntmps144
  go_wp2_with fail
  go_loopw [5, 6] (fun v i wr => ∃ k : Nat, k ≤ xs.length ∧ i = .int .i64 k ∧ OutAt w (meetF (xs.take k) ys) v wr) (fun _ i _ => xs.length - (valInt i).toNat)
  case atStart => exact ⟨0, Nat.zero_le _, rfl, OutAt.start w⟩
  case round =>
    obtain ⟨k, hk, rfl, hout⟩ := hrel
    by_cases hlt : k < xs.length
    · obtain ⟨b, off, rfl, hb, hcell⟩ := hs.ints (by omega)
      have g := (hout.2.cell (p := ⟨b, off + k, none⟩) hb).trans (hcell k hlt)
      have l0 : (k : Int) < xs.length := by omega
      have l4 : (0 : Int) ≤ k := by omega
      have htk : xs.take (k + 1) = xs.take k ++ [xs.getD k 0] := take_snoc hlt
      have hlm : (meetF (xs.take k) ys).length ≤ 1048576 := by have := meetF_length (xs.take k) ys; simp at this; omega
      obtain ⟨x, hx⟩ : ∃ x, x = xs.getD k 0 := ⟨_, rfl⟩
      rw [← hx] at g htk
      have hms := meetF_snoc (xs.take k) ys x
      rw [← htk] at hms
      have ht' := ht.below hout.2
      obtain ⟨M, hM⟩ : ∃ M, M = meetF (xs.take k) ys := ⟨_, rfl⟩
      rw [← hM] at hms hout hlm
      have HM := Lib.hid hms
      clear hcell hx htk hms hM
      have hz := hout.2.size
      by_cases hxy : x ∈ ys
      · rw [if_pos hxy] at HM
        go_wp2_with (first
          | (go_at_call 192; refine (refHas_any hd ht' x).mono ?_; rintro e w' ⟨rfl, rfl⟩)
          | (go_at_call 193; refine (with_any hout.1 hz hlm x).mono ?_; rintro e w1 ⟨v1, rfl, ho1, hb1⟩))
        go_roundw
        case rel => exact ⟨k + 1, by omega, by go_num, by rw [HM.out]; exact ⟨ho1, hout.2.next hb1⟩⟩
        case measure => simp [valInt]; omega
      · rw [if_neg hxy] at HM
        go_wp2_with (first
          | (go_at_call 192; refine (refHas_any hd ht' x).mono ?_; rintro e w' ⟨rfl, rfl⟩))
        go_roundw
        case rel => exact ⟨k + 1, by omega, by go_num, by rw [HM.out]; exact hout⟩
        case measure => simp [valInt]; omega
    · obtain rfl : k = xs.length := by omega
      rw [List.take_length] at hout
      go_wp2_with fail
      go_ret
      exact hout.post
end Go.Proofs.YtdblhmpcilihnaaGreat
