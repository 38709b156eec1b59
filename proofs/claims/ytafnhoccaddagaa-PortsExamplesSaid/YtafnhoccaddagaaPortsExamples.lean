/- PortsExamples: the lists of the examples, each with each. -/
import Derived.Test.YtafnhoccaddagaaData
import Derived.Test.YtafnhoccaddagaaRows
import Derived.WalkKit
import Derived.ProofKit
import Derived.Lib.Hide
import Derived.Deep.RegionHeld3
import Derived.Deep.DeepCutAuto
import Derived.Deep.LoopGhost
import Derived.BigQuiet
import Derived.WalkLawsBesides
import Derived.WalkSpells
import Derived.Test.YtafnhoccaddagaaPortsUnions
namespace Go.Proofs.Ytafnhoccaddagaa
open Go.ChangeShapes Go.WideShapes Go.ChangeAt Go.RowKit
set_option linter.unusedVariables false
set_option linter.unusedSimpArgs false
def exLists : List (List Int) := [[], [80], [80, 443], [443, 80], [80, 80], [0], [65535], [65536], [1, 65535], [-1, 2], [1, 2, 3, 4, 5, 6, 7, 8], [1, 2, 3, 4, 5, 6, 7, 8, 9], [9, 8, 7, 6, 5, 4, 3, 2, 1], [1, 0], [4611686018427387904, -9223372036854775808]]
theorem exLists_len : exLists.length = 15 := rfl
theorem exLists_wf : ∀ l ∈ exLists, ∀ x ∈ l, (Lit.int .i64 x).wf = true := by decide
theorem cells_cons {W : World} {x : List Int} {v : Value} {xs : List (List Int)} {cs : List Value} (h0 : (Kn.slice (Kn.int .i64)).K W x [v]) (h1 : Kn.Cells (Kn.slice (Kn.int .i64)) W xs cs) : Kn.Cells (Kn.slice (Kn.int .i64)) W (x :: xs) (v :: cs) := ⟨[v], cs, rfl, h0, h1⟩
theorem nilK (W : World) : (Kn.slice (Kn.int .i64)).K W [] [.slice none 0 0] := ⟨none, 0, rfl, ⟨Nat.le_refl _, Nat.zero_le _⟩, Kn.Sl.nil _ _ _⟩
theorem litK {W : World} {g n : Nat} {cs : Array Value} {t : TypeId} {xs : List Int} (h : W.heap[g]? = some (.cells cs t (0, 0))) (hcs : cs = (xs.map (Value.int .i64)).toArray) (hn : n = xs.length) (hl : xs.length ≤ 1048576) :
    (Kn.slice (Kn.int .i64)).K W xs [.slice (some ⟨g, 0, none⟩) n n] := by
  subst hn
  exact ⟨_, _, rfl, self_le hl, xs.map (Value.int .i64), cells_ints _ xs, by have := row_of_block h; rw [hcs] at this; simpa using this⟩
theorem unions_lit {W : World} {x y : List Int} {A B : Option Addr} {c d g : Nat} {t : TypeId} (hc : x.length ≤ c ∧ c ≤ maxLen) (hd : y.length ≤ d ∧ d ≤ maxLen) (hs : Kn.Sl (Kn.int .i64) W A x) (ht : Kn.Sl (Kn.int .i64) W B y)
    (hw : ∀ z ∈ x, (Lit.int .i64 z).wf = true) (hw2 : ∀ z ∈ y, (Lit.int .i64 z).wf = true) (hg : g = W.heap.size) :
    Calls Try.prog 4 #[.slice (some ⟨g, 0, none⟩) 3 3] (W.alloc (.cells #[.slice A x.length c, .slice none 0 0, .slice B y.length d] t)) fun e w' => e = .returned (.bool true) ∧ Below (W.alloc (.cells #[.slice A x.length c, .slice none 0 0, .slice B y.length d] t)).heap.size (W.alloc (.cells #[.slice A x.length c, .slice none 0 0, .slice B y.length d] t)) w' := by
  have hb : Below W.heap.size W (W.alloc (.cells #[.slice A x.length c, .slice none 0 0, .slice B y.length d] t)) := (Below.refl _ _).alloc (Nat.le_refl _) _
  refine unions_any (ls := [x, [], y]) (c := 3) (self_le (n := 3) (by omega)) (lists_sl (t := t) (cells_cons ⟨A, c, rfl, hc, hs.below hb⟩ (cells_cons (nilK _) (cells_cons ⟨B, d, rfl, hd, ht.below hb⟩ rfl))) hg) (fun l hl q hq => ?_)
  rcases List.mem_cons.1 hl with rfl | hl
  · exact hw q hq
  · rcases List.mem_cons.1 hl with rfl | hl
    · cases hq
    · rw [List.mem_singleton.1 hl] at hq; exact hw2 q hq
set_option maxRecDepth 20000 in
set_option maxHeartbeats 8000000 in
theorem examples_any (w : World) : Calls Try.prog 5 #[] w fun e w' => e = .returned (.bool true) ∧ Below w.heap.size w w' := by
  go_enter Try.func5, Try.ntmps5
  go_wp2_with fail
  go_loopw [2] (fun i wr => ∃ k : Nat, k ≤ 15 ∧ i = .int .i64 k ∧ Kn.Sl (Kn.slice (Kn.int .i64)) wr (some ⟨w.heap.size + 14, 0, none⟩) exLists ∧ Below w.heap.size w wr) (fun i _ => 15 - (valInt i).toNat)
  case atStart =>
    refine ⟨0, by omega, rfl, ?_, (by repeat (first | with_reducible exact Below.refl _ _ | with_reducible assumption | with_reducible refine Below.alloc ?_ (by first | omega | (simp; done) | (simp; omega)) _ | with_reducible refine Below.setCell ?_ (by first | omega | (simp; done) | (simp; omega)) _ | with_reducible refine Below.drew ?_ | with_reducible refine below_drewN ?_ _ | with_reducible refine Below.next ?_ (by with_reducible assumption)))⟩
    refine lists_sl ?_ (by simp)
    unfold exLists
    repeat' (first | rfl | apply cells_cons)
    all_goals first
      | exact nilK _
      | exact litK (t := 3) (by repeat (first | (with_reducible refine (heap_old _ _ _ ?_).trans ?_; · (first | (simp; done) | (simp; omega))) | (with_reducible refine heap_last _ _ _ ?_; · (simp; done)))) (by rfl) rfl (by decide)
  case round =>
    obtain ⟨k, hk, rfl, hs, hb⟩ := hrel
    by_cases hlt : k < 15
    · have l0 : (k : Int) < 15 := by omega
      have l4 : (0 : Int) ≤ k := by omega
      go_wp2_with fail
      obtain ⟨W0, hW0⟩ : ∃ W0, W0 = wr := ⟨_, rfl⟩
      subst hW0
      go_loopw [3] (fun i wr2 => ∃ q : Nat, q ≤ 15 ∧ i = .int .i64 q ∧ Kn.Sl (Kn.slice (Kn.int .i64)) wr2 (some ⟨w.heap.size + 14, 0, none⟩) exLists ∧ Below w.heap.size w wr2) (fun i _ => 15 - (valInt i).toNat)
      case atStart => exact ⟨0, by omega, rfl, hs, hb⟩
      case round =>
        obtain ⟨q, hq, rfl, hs2, hb2⟩ := hrel
        by_cases hql : q < 15
        · have q0 : (q : Int) < 15 := by omega
          have q4 : (0 : Int) ≤ q := by omega
          obtain ⟨bA, oA, kA, eA, hbA, ⟨A1, c1, rfl, hc1, hs1⟩, hcA⟩ := hs2.at_ Nat.one_pos (List.getElem?_eq_getElem (show k < exLists.length from hlt))
          obtain ⟨bB, oB, kB, eB, hbB, ⟨A2, c2, rfl, hc2, hs3⟩, hcB⟩ := hs2.at_ Nat.one_pos (List.getElem?_eq_getElem (show q < exLists.length from hql))
          have hw1 := exLists_wf _ (List.getElem_mem (show k < exLists.length from hlt))
          have hw2 := exLists_wf _ (List.getElem_mem (show q < exLists.length from hql))
          injection eA with eA
          injection eB with eB
          injection eA with eA1 eA2
          injection eB with eB1 eB2
          subst eA1; subst eA2; subst eB1; subst eB2
          have gA := hcA 0 _ rfl
          have gB := hcB 0 _ rfl
          simp only [Kn.slice, Nat.mul_one, Nat.add_zero, Nat.zero_add] at gA gB
          generalize exLists[k] = x at *
          generalize exLists[q] = y at *
          have HS := Lib.hid hs2
          clear hcA hcB hs2 hs
          obtain ⟨W2, hW2⟩ : ∃ W2, W2 = wr := ⟨_, rfl⟩
          subst hW2
          go_wp2_with fail
          go_region_held3 (fun W => W.cell? ⟨w.heap.size + 14, k, none⟩ = some (.slice A1 x.length c1) ∧ W.cell? ⟨w.heap.size + 14, q, none⟩ = some (.slice A2 y.length c2))
            (first | exact ⟨gA, gB⟩ | exact ⟨eA, eB⟩ | exact ⟨(((Below.refl _ _).alloc (Nat.le_refl _) _).cell (p := ⟨w.heap.size + 14, k, none⟩) lP).trans eA, (((Below.refl _ _).alloc (Nat.le_refl _) _).cell (p := ⟨w.heap.size + 14, q, none⟩) lP).trans eB⟩)
            (first
            | (go_at_call 3; refine (pairs_any hc1 hc2 (hs1.below (by repeat (first | with_reducible exact Below.refl _ _ | with_reducible assumption | with_reducible refine Below.alloc ?_ (by first | omega | (simp; done) | (simp; omega)) _ | with_reducible refine Below.setCell ?_ (by first | omega | (simp; done) | (simp; omega)) _ | with_reducible refine Below.drew ?_ | with_reducible refine below_drewN ?_ _ | with_reducible refine Below.next ?_ (by with_reducible assumption)))) (hs3.below (by repeat (first | with_reducible exact Below.refl _ _ | with_reducible assumption | with_reducible refine Below.alloc ?_ (by first | omega | (simp; done) | (simp; omega)) _ | with_reducible refine Below.setCell ?_ (by first | omega | (simp; done) | (simp; omega)) _ | with_reducible refine Below.drew ?_ | with_reducible refine below_drewN ?_ _ | with_reducible refine Below.next ?_ (by with_reducible assumption)))) hw1 hw2 _).mono ?_; rintro e wP ⟨rfl, hbP⟩; have zP := hbP.size; (try simp at zP); have eA := (((by repeat (first | with_reducible exact Below.refl _ _ | with_reducible assumption | with_reducible refine Below.alloc ?_ (by first | omega | (simp; done) | (simp; omega)) _ | with_reducible refine Below.setCell ?_ (by first | omega | (simp; done) | (simp; omega)) _ | with_reducible refine Below.drew ?_ | with_reducible refine below_drewN ?_ _ | with_reducible refine Below.next ?_ (by with_reducible assumption))) : Below W2.heap.size W2 wP).cell (p := ⟨w.heap.size + 14, k, none⟩) hbA).trans gA; have eB := (((by repeat (first | with_reducible exact Below.refl _ _ | with_reducible assumption | with_reducible refine Below.alloc ?_ (by first | omega | (simp; done) | (simp; omega)) _ | with_reducible refine Below.setCell ?_ (by first | omega | (simp; done) | (simp; omega)) _ | with_reducible refine Below.drew ?_ | with_reducible refine below_drewN ?_ _ | with_reducible refine Below.next ?_ (by with_reducible assumption))) : Below W2.heap.size W2 wP).cell (p := ⟨w.heap.size + 14, q, none⟩) hbA).trans gB; have lP : w.heap.size + 14 < wP.heap.size := (by omega))
            | (go_at_call 4; refine (unions_lit hc1 hc2 (hs1.below (by repeat (first | with_reducible exact Below.refl _ _ | with_reducible assumption | with_reducible refine Below.alloc ?_ (by first | omega | (simp; done) | (simp; omega)) _ | with_reducible refine Below.setCell ?_ (by first | omega | (simp; done) | (simp; omega)) _ | with_reducible refine Below.drew ?_ | with_reducible refine below_drewN ?_ _ | with_reducible refine Below.next ?_ (by with_reducible assumption)))) (hs3.below (by repeat (first | with_reducible exact Below.refl _ _ | with_reducible assumption | with_reducible refine Below.alloc ?_ (by first | omega | (simp; done) | (simp; omega)) _ | with_reducible refine Below.setCell ?_ (by first | omega | (simp; done) | (simp; omega)) _ | with_reducible refine Below.drew ?_ | with_reducible refine below_drewN ?_ _ | with_reducible refine Below.next ?_ (by with_reducible assumption)))) hw1 hw2 (by simp)).mono ?_; rintro e wU ⟨rfl, hbU⟩; have zU := hbU.size; (try simp at zU); have eA := (((by repeat (first | with_reducible exact Below.refl _ _ | with_reducible assumption | with_reducible refine Below.alloc ?_ (by first | omega | (simp; done) | (simp; omega)) _ | with_reducible refine Below.setCell ?_ (by first | omega | (simp; done) | (simp; omega)) _ | with_reducible refine Below.drew ?_ | with_reducible refine below_drewN ?_ _ | with_reducible refine Below.next ?_ (by with_reducible assumption))) : Below W2.heap.size W2 wU).cell (p := ⟨w.heap.size + 14, k, none⟩) hbA).trans gA; have eB := (((by repeat (first | with_reducible exact Below.refl _ _ | with_reducible assumption | with_reducible refine Below.alloc ?_ (by first | omega | (simp; done) | (simp; omega)) _ | with_reducible refine Below.setCell ?_ (by first | omega | (simp; done) | (simp; omega)) _ | with_reducible refine Below.drew ?_ | with_reducible refine below_drewN ?_ _ | with_reducible refine Below.next ?_ (by with_reducible assumption))) : Below W2.heap.size W2 wU).cell (p := ⟨w.heap.size + 14, q, none⟩) hbA).trans gB; have lP : w.heap.size + 14 < wU.heap.size := (by omega)))
          all_goals
            have hfin : Below W2.heap.size W2 wU := (by repeat (first | with_reducible exact Below.refl _ _ | with_reducible assumption | with_reducible refine Below.alloc ?_ (by first | omega | (simp; done) | (simp; omega)) _ | with_reducible refine Below.setCell ?_ (by first | omega | (simp; done) | (simp; omega)) _ | with_reducible refine Below.drew ?_ | with_reducible refine below_drewN ?_ _ | with_reducible refine Below.next ?_ (by with_reducible assumption)))
            go_wp2_with fail
            go_roundw
            case rel => exact ⟨q + 1, by omega, by go_num, HS.out.below hfin, hb2.next hfin⟩
            case measure => simp [valInt]; omega
        · have q0 : ¬ (q : Int) < 15 := by omega
          go_wp2_with fail
          go_roundw
          case rel => exact ⟨k + 1, by omega, by go_num, hs2, hb2⟩
          case measure => simp [valInt]; omega
    · have l0 : ¬ (k : Int) < 15 := by omega
      go_wp2_with fail
      refine (unions_any (ls := []) ⟨Nat.le_refl _, Nat.zero_le _⟩ (Kn.Sl.nil _ _ _) (fun l hl => by cases hl)).mono ?_
      rintro e w3 ⟨rfl, hb3⟩
      go_wp2_with fail
      refine (unions_any (ls := exLists) (self_le (n := 15) (by omega)) (hs.below hb3) exLists_wf).mono ?_
      rintro e w4 ⟨rfl, hb4⟩
      go_wp2_with fail
      refine (awake_any _).mono ?_
      rintro e w5 ⟨rfl, hb5⟩
      go_wp2_with fail
      go_ret
      exact ⟨rfl, ((hb.next hb3).next hb4).next hb5⟩
end Go.Proofs.Ytafnhoccaddagaa
