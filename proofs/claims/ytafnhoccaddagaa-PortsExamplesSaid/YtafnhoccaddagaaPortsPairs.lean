/- PortsPairs. -/
import Derived.Test.YtafnhoccaddagaaData
import Derived.Test.YtafnhoccaddagaaRows
import Derived.WalkKit
import Derived.ProofKit
import Derived.Lib.Hide
import Derived.Deep.RegionHeld3
import Derived.Deep.DeepCutAuto
import Derived.Deep.LoopGhost
import Derived.BigQuiet
import Derived.WalkLawsBesides
import Derived.WalkSpells
import Derived.Test.YtafnhoccaddagaaPortsAwake
namespace Go.Proofs.Ytafnhoccaddagaa
open Go.ChangeShapes Go.WideShapes Go.ChangeAt Go.RowKit
set_option linter.unusedVariables false
set_option linter.unusedSimpArgs false
theorem sl_take {w : World} {A : Option Addr} {xs : List Int} (h : Kn.Sl (Kn.int .i64) w A xs) (k : Nat) : Kn.Sl (Kn.int .i64) w A (xs.take k) :=
  ⟨(xs.take k).map (Value.int .i64), cells_ints _ _, fun hp => by
    have hl : 0 < xs.length := by simp at hp; omega
    obtain ⟨b, off, rfl, hb, hc⟩ := h.ints hl
    refine row_ints hb (fun j hj => ?_) hp
    have hj1 : j < k ∧ j < xs.length := by simp at hj; omega
    rw [hc j hj1.2]; simp [List.getD, List.getElem?_take, hj1.1, hj1.2]⟩
def Room (w : World) (base : Nat) (A : Option Addr) (len : Nat) : Prop := len = 0 ∨ ∃ b cur, A = some ⟨b, 0, none⟩ ∧ base ≤ b ∧ w.heap[b]? = some (.cells cur 3 (0, 0)) ∧ len ≤ cur.size
theorem IntsMade.room {w w' : World} {x : List Int} {A : Option Addr} {c : Nat} (h : IntsMade w w' x A c) : Room w' w.heap.size A x.length := by
  rcases h.2.1.2 with ⟨_, h0⟩ | ⟨b, cap, cur, hv, hb, hg, hnc, hcm, hsz, _⟩
  · exact .inl h0
  · injection hv with h1
    exact .inr ⟨b, cur, h1, hb, hg, by omega⟩
theorem Room.below {w w' : World} {base : Nat} {A : Option Addr} {len : Nat} (h : Room w base A len) (hb : Below w.heap.size w w') : Room w' base A len :=
  h.imp id fun ⟨b, cur, h1, h2, h3, h4⟩ => ⟨b, cur, h1, h2, (hb.block b (lt_of_block h3)).trans h3, h4⟩
theorem Room.at_ {w : World} {base : Nat} {A : Option Addr} {len q : Nat} (h : Room w base A len) (hq : q < len) :
    ∃ b u, A = some ⟨b, 0, none⟩ ∧ base ≤ b ∧ b < w.heap.size ∧ w.cell? ⟨b, q, none⟩ = some u ∧ w.frozen? ⟨b, q, none⟩ = false ∧ ∀ v, Room (w.setCell ⟨b, q, none⟩ v) base (some ⟨b, 0, none⟩) len := by
  rcases h with h0 | ⟨b, cur, rfl, hb, hg, hl⟩
  · omega
  · have hq' : q < cur.size := by omega
    refine ⟨b, cur[q], rfl, hb, lt_of_block hg, ?_, by simp [World.frozen?, hg], fun v => .inr ⟨b, cur.setIfInBounds q v, rfl, hb, ?_, by simpa using hl⟩⟩
    · rw [cell_of_row _ _ _ cur _ _ hg]; simp [hq']
    · simp [World.setCell, Array.getElem?_modify, hg]
theorem min_take (a : List Int) : min (a.length : Int) 40 = ((a.take 40).length : Int) := by rw [List.length_take]; omega
set_option maxHeartbeats 4000000 in
theorem pairs_core {w : World} {n m : Nat} {x y : List Int} {A B : Option Addr} {c d : Nat} (hq1 : min (n : Int) 40 = x.length) (hq2 : min (m : Int) 40 = y.length) (hc : x.length ≤ c ∧ c ≤ maxLen) (hd : y.length ≤ d ∧ d ≤ maxLen) (hs : Kn.Sl (Kn.int .i64) w A x) (ht : Kn.Sl (Kn.int .i64) w B y)
    (hw : ∀ z ∈ x, (Lit.int .i64 z).wf = true) (hw2 : ∀ z ∈ y, (Lit.int .i64 z).wf = true) (port : Int) :
    Calls Try.prog 3 #[.slice A n c, .slice B m d, .int .i64 port] w fun e w' => e = .returned (.bool true) ∧ Below w.heap.size w w' := by
  have HS := Lib.hid hs
  have HT := Lib.hid ht
  have HW := Lib.hid hw
  have HW2 := Lib.hid hw2
  have hx4 : x.length ≤ 40 := by omega
  have hy4 : y.length ≤ 40 := by omega
  have hc' := hc
  have hd' := hd
  unfold maxLen at hc hd
  have j1 : (x.length : Int) ≤ c := by omega
  have j2 : (y.length : Int) ≤ d := by omega
  clear hs ht hw hw2
  go_enter Try.func3, Try.ntmps3
  go_wp2_with fail
  go_quiet (fail)
  go_wp2_with fail
  refine (copyInts_any hc' (HS.out.below (by repeat (first | with_reducible exact Below.refl _ _ | with_reducible assumption | with_reducible refine Below.alloc ?_ (by first | omega | (simp; done) | (simp; omega)) _ | with_reducible refine Below.setCell ?_ (by first | omega | (simp; done) | (simp; omega)) _ | with_reducible refine Below.drew ?_ | with_reducible refine below_drewN ?_ _ | with_reducible refine Below.next ?_ (by with_reducible assumption)))) (by omega)).mono ?_
  rintro e w1 ⟨A1, c1, rfl, hi1⟩
  have hb1 := hi1.2.2
  have hz1 := hb1.size
  simp at hz1
  go_wp2_with fail
  refine (copyInts_any hd' (HT.out.below (by repeat (first | with_reducible exact Below.refl _ _ | with_reducible assumption | with_reducible refine Below.alloc ?_ (by first | omega | (simp; done) | (simp; omega)) _ | with_reducible refine Below.setCell ?_ (by first | omega | (simp; done) | (simp; omega)) _ | with_reducible refine Below.drew ?_ | with_reducible refine below_drewN ?_ _ | with_reducible refine Below.next ?_ (by with_reducible assumption)))) (by omega)).mono ?_
  rintro e w2 ⟨A2, c2, rfl, hi2⟩
  have hb2 := hi2.2.2
  have hb02 : Below w.heap.size w w2 := (Below.next (a := w) (b := w.drewN nq) (by repeat (first | with_reducible exact Below.refl _ _ | with_reducible assumption | with_reducible refine Below.alloc ?_ (by first | omega | (simp; done) | (simp; omega)) _ | with_reducible refine Below.setCell ?_ (by first | omega | (simp; done) | (simp; omega)) _ | with_reducible refine Below.drew ?_ | with_reducible refine below_drewN ?_ _ | with_reducible refine Below.next ?_ (by with_reducible assumption))) hb1).next hb2
  have S1 := HS.out.below hb02
  have S2 := HT.out.below hb02
  have S3 := hi1.sl.below hb2
  have S4 := hi2.sl
  have m1 := hi1.1
  have m2 := hi2.1
  clear hi1 hi2 hb1 hb2 hz1
  have HA := Lib.hid S1
  have HB := Lib.hid S2
  have HX := Lib.hid S3
  have HY := Lib.hid S4
  clear S1 S2 S3 S4 HS HT
  go_wp2_with fail
  go_loopw [9] (fun i wr => ∃ r : Nat, r ≤ 2 ∧ i = .int .i64 r ∧ Below w2.heap.size w2 wr) (fun i _ => 2 - (valInt i).toNat)
  case atStart => exact ⟨0, by omega, rfl, Below.refl _ _⟩
  case round =>
    obtain ⟨r, hr, rfl, hb⟩ := hrel
    by_cases hlt : r < 2
    · have r0 : (r : Int) < 2 := by omega
      go_wp2_with fail
      refine (meet_any m1 m2 (HX.out.below hb) (HY.out.below hb) (by omega) (by omega) HW.out HW2.out).mono ?_
      rintro e w3 ⟨A3, c3, rfl, hi3⟩
      have hb3 := hi3.2.2
      have hz3 := hb3.size
      go_wp2_with fail
      refine (refMeet_any hc' hd' (HA.out.below (hb.next hb3)) (HB.out.below (hb.next hb3)) (by omega)).mono ?_
      rintro e w4 ⟨A4, c4, rfl, hi4⟩
      have hb4 := hi4.2.2
      have hz4 := hb4.size
      go_wp2_with fail
      refine (equalInts_any hi3.1 hi4.1 (hi3.sl.below hb4) hi4.sl).mono ?_
      rintro e w5 ⟨rfl, hb5⟩
      have hz5 := hb5.size
      have hroom := (hi3.room.below hb4).below hb5
      have hbz := hb.size
      have hbase : w2.heap.size ≤ wr.heap.size := hb.size
      have hB := ((hb.next hb3).next hb4).next hb5
      obtain ⟨l, hl⟩ : ∃ l, l = (meetF x y).length := ⟨_, rfl⟩
      have hl40 : l ≤ 40 := by have := meetF_length x y; omega
      have hlc : l ≤ c3 ∧ c3 ≤ maxLen := by rw [hl]; exact hi3.1
      unfold maxLen at hlc
      rw [← hl] at hroom ⊢
      clear hi3 hi4 hb3 hb4 hb5 hz3 hz4 hz5 hb hl
      go_wp2_with fail
      go_loopw [11] (fun i wr' => ∃ q : Nat, q ≤ l ∧ i = .int .i64 q ∧ Below w2.heap.size w2 wr' ∧ Room wr' wr.heap.size A3 l) (fun i _ => l - (valInt i).toNat)
      case atStart => exact ⟨0, by omega, rfl, hB, hroom⟩
      case round =>
        obtain ⟨q, hq, rfl, hB2, hroom2⟩ := hrel
        by_cases hql : q < l
        · obtain ⟨b0, u, rfl, hb0, hb1, hcell, hfz, hset⟩ := hroom2.at_ hql
          have q0 : (q : Int) < l := by omega
          have q1 : (0 : Int) ≤ q := by omega
          have hset' := hset (.int .i64 (-1))
          clear hset
          go_wp2_with fail
          go_roundw
          case rel => exact ⟨q + 1, by omega, by go_num, hB2.setCell (by show w2.heap.size ≤ b0; omega) _, hset'⟩
          case measure => simp [valInt]; omega
        · have q0 : ¬ (q : Int) < l := by omega
          go_wp2_with fail
          go_roundw
          case rel => exact ⟨r + 1, by omega, by go_num, hB2⟩
          case measure => simp [valInt]; omega
    · have r0 : ¬ (r : Int) < 2 := by omega
      go_wp2_with fail
      refine (check_any m1 (HX.out.below hb)).mono ?_
      rintro e w3 ⟨rfl, rfl⟩
      go_wp2_with fail
      refine (refCheck_any hc' (HA.out.below hb)).mono ?_
      rintro e w3 ⟨rfl, hb3⟩
      go_wp2_with fail
      refine (has_any m1 (HX.out.below (hb.next hb3)) port).mono ?_
      rintro e w4 ⟨rfl, rfl⟩
      go_wp2_with fail
      refine (refHas_any hc' (HA.out.below (hb.next hb3)) port).mono ?_
      rintro e w4 ⟨rfl, rfl⟩
      go_wp2_with fail
      refine (equalInts_any m1 hc' (HX.out.below (hb.next hb3)) (HA.out.below (hb.next hb3))).mono ?_
      rintro e w4 ⟨rfl, hb4⟩
      go_wp2_with fail
      refine (equalInts_any m2 hd' (HY.out.below ((hb.next hb3).next hb4)) (HB.out.below ((hb.next hb3).next hb4))).mono ?_
      rintro e w5 ⟨rfl, hb5⟩
      go_wp2_with fail
      refine (awake_any _).mono ?_
      rintro e w6 ⟨rfl, hb6⟩
      go_wp2_with fail
      go_ret
      exact ⟨rfl, hb02.next ((((hb.next hb3).next hb4).next hb5).next hb6)⟩
theorem pairs_any {w : World} {a b : List Int} {A B : Option Addr} {c d : Nat} (hc : a.length ≤ c ∧ c ≤ maxLen) (hd : b.length ≤ d ∧ d ≤ maxLen) (hs : Kn.Sl (Kn.int .i64) w A a) (ht : Kn.Sl (Kn.int .i64) w B b)
    (hw : ∀ x ∈ a, (Lit.int .i64 x).wf = true) (hw2 : ∀ x ∈ b, (Lit.int .i64 x).wf = true) (port : Int) :
    Calls Try.prog 3 #[.slice A a.length c, .slice B b.length d, .int .i64 port] w fun e w' => e = .returned (.bool true) ∧ Below w.heap.size w w' :=
  pairs_core (min_take a) (min_take b) ⟨by simp; omega, hc.2⟩ ⟨by simp; omega, hd.2⟩ (sl_take hs 40) (sl_take ht 40) (fun z hz => hw z (List.mem_of_mem_take hz)) (fun z hz => hw2 z (List.mem_of_mem_take hz)) port
end Go.Proofs.Ytafnhoccaddagaa
