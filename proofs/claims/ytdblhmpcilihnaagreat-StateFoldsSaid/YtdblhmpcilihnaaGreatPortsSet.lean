/- ports.set: a new map that holds the numbers of the lists. -/
import Derived.Test.YtdblhmpcilihnaaGreatData
import Derived.Test.YtdblhmpcilihnaaGreatRows
import Derived.WalkKit
import Derived.ProofKit
import Derived.Lib.Hide
import Derived.Deep.RegionHeld3
import Derived.Deep.DeepCutAuto
import Derived.Deep.LoopGhost
import Derived.BigQuiet
import Derived.WalkLawsBesides
import Derived.WalkSpells
import Derived.Test.YtdblhmpcilihnaaGreatPortsMaps
import Derived.Test.YtdblhmpcilihnaaGreatPortsCheck
set_option maxRecDepth 100000
namespace Go.Proofs.YtdblhmpcilihnaaGreat
open Go.ChangeShapes Go.WideShapes Go.ChangeAt Go.RowKit
set_option linter.unusedVariables false
set_option linter.unusedSimpArgs false
theorem run_make_set (w : World) : (Instr.makeMap 65 none).run Tryz.prog w = .ok (.map (some w.heap.size)) (w.alloc (.map #[] 0)) := by kernel_rfl
def SetPost (w : World) (S : List Int) (e : Ending) (w' : World) : Prop := ∃ b, e = .returned (.map (some b)) ∧ w.heap.size ≤ b ∧ SetAt w' b S.length S ∧ Below w.heap.size w w'
theorem take_flatten {ls : List (List Int)} {k : Nat} (h : k < ls.length) : (ls.take (k + 1)).flatten = (ls.take k).flatten ++ ls[k] := by
  rw [List.take_succ_eq_append_getElem h, List.flatten_append, List.flatten_singleton]
theorem take_flatten_le (ls : List (List Int)) (k : Nat) : (ls.take k).flatten.length ≤ ls.flatten.length := by
  conv => rhs; rw [← List.take_append_drop k ls]
  rw [List.flatten_append, List.length_append]; omega
theorem take_snoc {l : List Int} {q : Nat} (h : q < l.length) : l.take (q + 1) = l.take q ++ [l.getD q 0] := by
  rw [List.take_succ_eq_append_getElem h]; simp [List.getD, h]
theorem getD_mem {l : List Int} {q : Nat} (h : q < l.length) : l.getD q 0 ∈ l := by simp [List.getD, h]
set_option maxHeartbeats 2000000 in
theorem set_any {w : World} {ls : List (List Int)} {L : Option Addr} {c : Nat} (hc : ls.length ≤ c ∧ c ≤ maxLen) (hs : Kn.Sl (Kn.slice (Kn.int .i64)) w L ls) (hl : ls.flatten.length ≤ 1048576)
    (hw : ∀ l ∈ ls, ∀ x ∈ l, (Lit.int .i64 x).wf = true) : Calls Tryz.prog 185 #[.slice L ls.length c] w (SetPost w ls.flatten) := by
  unfold maxLen at hc
  have hmm := run_make_set
  go_enter Tryz.func185, Tryz.ntmps185
  go_wp2_with fail
  have h0 := SetAt.made w
  generalize hbm : w.heap.size = bm at *
  go_loopw [11] (fun i wr => ∃ k : Nat, k ≤ ls.length ∧ i = .int .i64 k ∧ SetAt wr bm (ls.take k).flatten.length (ls.take k).flatten ∧ Below bm w wr) (fun i _ => ls.length - (valInt i).toNat)
  case atStart => exact ⟨0, Nat.zero_le _, rfl, h0, by subst hbm; exact (by repeat (first | with_reducible exact Below.refl _ _ | with_reducible assumption | with_reducible refine Below.alloc ?_ (by first | omega | (simp; done) | (simp; omega)) _ | with_reducible refine Below.setCell ?_ (by first | omega | (simp; done) | (simp; omega)) _ | with_reducible refine Below.drew ?_ | with_reducible refine below_drewN ?_ _ | with_reducible refine Below.next ?_ (by with_reducible assumption)))⟩
  case round =>
    obtain ⟨k, hk, rfl, hset, hb⟩ := hrel
    by_cases hlt : k < ls.length
    · obtain ⟨b0, off, c0, rfl, hbl, hK0, hcell⟩ := hs.at_ Nat.one_pos (List.getElem?_eq_getElem hlt)
      have hlw := hw ls[k] (List.getElem_mem hlt)
      have htf := take_flatten hlt
      have htl := take_flatten_le ls (k + 1)
      obtain ⟨l, hel⟩ : ∃ l, l = ls[k] := ⟨_, rfl⟩
      rw [← hel] at hK0 hlw htf
      obtain ⟨A, cc, rfl, hcc, hs1⟩ := hK0
      have g : wr.cell? ⟨b0, off + k, none⟩ = some (.slice A l.length cc) := by
        have h1 := hcell 0 _ rfl
        simp only [Kn.slice, Nat.mul_one, Nat.add_zero] at h1
        exact (hb.cell (p := ⟨b0, off + k, none⟩) (by show b0 < bm; omega)).trans h1
      have l0 : (k : Int) < ls.length := by omega
      have l4 : (0 : Int) ≤ k := by omega
      clear hcell hel
      unfold maxLen at hcc
      have HTF := Lib.hid htf
      rw [htf] at htl
      rw [List.length_append] at htl
      clear htf
      obtain ⟨P, hP⟩ : ∃ P, P = (ls.take k).flatten := ⟨_, rfl⟩
      rw [← hP] at htl hset
      have HP := Lib.hid hP
      clear hP
      go_wp2_with fail
      go_loopw [17] (fun i wr => ∃ q : Nat, q ≤ l.length ∧ i = .int .i64 q ∧ SetAt wr bm (P.length + q) (P ++ l.take q) ∧ Below bm w wr) (fun i _ => l.length - (valInt i).toNat)
      case atStart => exact ⟨0, Nat.zero_le _, rfl, by simpa using hset, hb⟩
      case round =>
        obtain ⟨q, hq, rfl, hset2, hb2⟩ := hrel
        by_cases hlq : q < l.length
        · obtain ⟨b1, off1, rfl, hb1, hcell1⟩ := hs1.ints (by omega)
          have g1 := (hb2.cell (p := ⟨b1, off1 + q, none⟩) (by show b1 < bm; omega)).trans (hcell1 q hlq)
          have m0 : (q : Int) < l.length := by omega
          have m4 : (0 : Int) ≤ q := by omega
          have hwx := hlw _ (getD_mem hlq)
          have hts := take_snoc hlq
          obtain ⟨x, hx⟩ : ∃ x, x = l.getD q 0 := ⟨_, rfl⟩
          rw [← hx] at g1 hwx hts
          have HTS := Lib.hid hts
          clear hcell1 hx hts
          go_wp2_with (at_mapUpdate; refine wpList_put_set rfl _ _ _ (.inr rfl) rfl hset2 (by unfold maxLen; omega) x hwx rfl rfl ?_; intro w1 hs2 hg2)
          go_roundw
          case rel => exact ⟨q + 1, by omega, by go_num, by rw [HTS.out, ← List.append_assoc]; exact hs2, hb2.grown hg2 (by have := hb2.size; omega) (fun j hj => by cases hj; exact Nat.le_refl _)⟩
          case measure => simp [valInt]; omega
        · obtain rfl : q = l.length := by omega
          rw [List.take_length] at hset2
          go_wp2_with fail
          go_roundw
          case rel => exact ⟨k + 1, by omega, by go_num, by rw [HTF.out, ← HP.out, List.length_append]; exact hset2, hb2⟩
          case measure => simp [valInt]; omega
    · obtain rfl : k = ls.length := by omega
      rw [List.take_length] at hset
      go_wp2_with fail
      go_ret
      exact ⟨bm, rfl, by omega, hset, by subst hbm; exact hb⟩
end Go.Proofs.YtdblhmpcilihnaaGreat
