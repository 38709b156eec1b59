/- PlanStarts: the walk for a valid task: every case of what is next. -/
import Derived.Test.YtgjodcmpkppdlaaPlanPure
namespace Go.Proofs.Ytgjodcmpkppdlaa
open Go.ChangeShapes Go.WideShapes Go.ChangeAt Go.RowKit
set_option linter.unusedVariables false
set_option linter.unusedSimpArgs false
set_option maxRecDepth 100000 in
set_option maxHeartbeats 4000000 in
theorem ps_over (t : Task) (k : Look) (At1 : Option Addr) (ct1 : Nat) (w : World) (hl : t.starts.length ≤ ct1) (hc : ct1 ≤ maxLen) (hs : Kn.Sl (Kn.int .i64) w At1 t.starts) (h0 : 0 ≤ t.state) (hlen : ¬ 20 < t.starts.length) (e0 : t.err = 0) (hnx : nextF t k = ⟨0, 0⟩) (ho : overB t.state = true) :
    Calls Try.prog 3 #[t.val At1 ct1, k.val] w fun e w' => e = .returned (.bool true) ∧ Below w.heap.size w w' := by
  have HCK := Lib.hid (fun W (hs : Kn.Sl (Kn.int .i64) W At1 t.starts) => by have hN := taskCheck_any t At1 ct1 W hl hc hs; rw [e0] at hN; simp only [Task.val] at hN; exact hN)
  have HS := Lib.hid hs
  clear hs
  have HNX := Lib.hid (fun W (hs : Kn.Sl (Kn.int .i64) W At1 t.starts) => by have hN := next_any t k At1 ct1 W hl hc hs h0; rw [hnx, e0] at hN; simp only [Task.val, Look.val] at hN; exact hN)
  clear hnx e0 h0
  simp only [Task.val, Look.val]
  go_enter Try.func3, Try.ntmps3
  go_wp2_with fail
  refine (HCK.out _ (Kn.Sl.below HS.out (by repeat (first | exact Below.refl _ _ | assumption | refine Below.alloc ?_ (by first | omega | (simp; done) | (simp; omega)) _ | refine Below.setCell ?_ (by first | omega | (simp; done) | (simp; omega)) _ | refine Below.drew ?_ | refine below_drewN ?_ _ | refine Below.next ?_ (by assumption))))).mono ?_
  rintro e w1 ⟨rfl, hb1⟩
  obtain ⟨hbc1, hbf1⟩ := bcell hb1
  have hz1 : w.heap.size + 1 + 1 ≤ w1.heap.size := by have := hb1.size; simp at this; omega
  go_wp2_with fail
  refine (HNX.out _ (Kn.Sl.below HS.out (by repeat (first | exact Below.refl _ _ | assumption | refine Below.alloc ?_ (by first | omega | (simp; done) | (simp; omega)) _ | refine Below.setCell ?_ (by first | omega | (simp; done) | (simp; omega)) _ | refine Below.drew ?_ | refine below_drewN ?_ _ | refine Below.next ?_ (by assumption))))).mono ?_
  rintro e w2 ⟨rfl, hb2⟩
  have hbc2 := fun b o (h : b < w.heap.size + 1 + 1) => (hb2.cell (p := ⟨b, o, none⟩) (by first | omega | (simp; done) | (simp; omega))).trans (hbc1 b o (by first | omega | (simp; done) | (simp; omega)))
  have hbf2 := fun b o (h : b < w.heap.size + 1 + 1) => (hb2.frozen (p := ⟨b, o, none⟩) (by first | omega | (simp; done) | (simp; omega))).trans (hbf1 b o (by first | omega | (simp; done) | (simp; omega)))
  have hz2 : w.heap.size + 1 + 1 ≤ w2.heap.size := Nat.le_trans hz1 hb2.size
  clear hbc1 hbf1
  have l0 : w.heap.size < w2.heap.size := by omega
  have l1 : w.heap.size + 1 < w2.heap.size := by omega
  simp only [Step.val]
  go_wp2_with (first
    | (go_at_call 8; refine (taskOver_any _ _).mono ?_; rintro e w' ⟨rfl, rfl⟩)
    | (go_at_call 9; refine (awake31_any _).mono ?_; rintro e w3 ⟨rfl, hb3⟩))
  all_goals
    go_ret
    exact ⟨rfl, (by repeat (first | exact Below.refl _ _ | assumption | refine Below.alloc ?_ (by first | omega | (simp; done) | (simp; omega)) _ | refine Below.setCell ?_ (by first | omega | (simp; done) | (simp; omega)) _ | refine Below.drew ?_ | refine below_drewN ?_ _ | refine Below.next ?_ (by assumption)))⟩
set_option maxRecDepth 100000 in
set_option maxHeartbeats 4000000 in
theorem ps_w0na (t : Task) (k : Look) (At1 : Option Addr) (ct1 : Nat) (w : World) (hl : t.starts.length ≤ ct1) (hc : ct1 ≤ maxLen) (hs : Kn.Sl (Kn.int .i64) w At1 t.starts) (h0 : 0 ≤ t.state) (hlen : ¬ 20 < t.starts.length) (e0 : t.err = 0) (hnx : nextF t k = ⟨0, 0⟩) (ho : overB t.state = false) (s0 : (t.state == 0) = true) (s0' : (t.state != 0) = false) (hh : k.has = false) :
    Calls Try.prog 3 #[t.val At1 ct1, k.val] w fun e w' => e = .returned (.bool true) ∧ Below w.heap.size w w' := by
  have HCK := Lib.hid (fun W (hs : Kn.Sl (Kn.int .i64) W At1 t.starts) => by have hN := taskCheck_any t At1 ct1 W hl hc hs; rw [e0] at hN; simp only [Task.val] at hN; exact hN)
  have HS := Lib.hid hs
  clear hs
  have HNX := Lib.hid (fun W (hs : Kn.Sl (Kn.int .i64) W At1 t.starts) => by have hN := next_any t k At1 ct1 W hl hc hs h0; rw [hnx, e0] at hN; simp only [Task.val, Look.val, hh] at hN; exact hN)
  clear hnx e0 h0
  simp only [Task.val, Look.val, hh]
  go_enter Try.func3, Try.ntmps3
  go_wp2_with fail
  refine (HCK.out _ (Kn.Sl.below HS.out (by repeat (first | exact Below.refl _ _ | assumption | refine Below.alloc ?_ (by first | omega | (simp; done) | (simp; omega)) _ | refine Below.setCell ?_ (by first | omega | (simp; done) | (simp; omega)) _ | refine Below.drew ?_ | refine below_drewN ?_ _ | refine Below.next ?_ (by assumption))))).mono ?_
  rintro e w1 ⟨rfl, hb1⟩
  obtain ⟨hbc1, hbf1⟩ := bcell hb1
  have hz1 : w.heap.size + 1 + 1 ≤ w1.heap.size := by have := hb1.size; simp at this; omega
  go_wp2_with fail
  refine (HNX.out _ (Kn.Sl.below HS.out (by repeat (first | exact Below.refl _ _ | assumption | refine Below.alloc ?_ (by first | omega | (simp; done) | (simp; omega)) _ | refine Below.setCell ?_ (by first | omega | (simp; done) | (simp; omega)) _ | refine Below.drew ?_ | refine below_drewN ?_ _ | refine Below.next ?_ (by assumption))))).mono ?_
  rintro e w2 ⟨rfl, hb2⟩
  have hbc2 := fun b o (h : b < w.heap.size + 1 + 1) => (hb2.cell (p := ⟨b, o, none⟩) (by first | omega | (simp; done) | (simp; omega))).trans (hbc1 b o (by first | omega | (simp; done) | (simp; omega)))
  have hbf2 := fun b o (h : b < w.heap.size + 1 + 1) => (hb2.frozen (p := ⟨b, o, none⟩) (by first | omega | (simp; done) | (simp; omega))).trans (hbf1 b o (by first | omega | (simp; done) | (simp; omega)))
  have hz2 : w.heap.size + 1 + 1 ≤ w2.heap.size := Nat.le_trans hz1 hb2.size
  clear hbc1 hbf1
  have l0 : w.heap.size < w2.heap.size := by omega
  have l1 : w.heap.size + 1 < w2.heap.size := by omega
  simp only [Step.val]
  go_wp2_with (first
    | (go_at_call 8; refine (taskOver_any _ _).mono ?_; rintro e w' ⟨rfl, rfl⟩)
    | (go_at_call 9; refine (awake31_any _).mono ?_; rintro e w3 ⟨rfl, hb3⟩))
  all_goals
    go_ret
    exact ⟨rfl, (by repeat (first | exact Below.refl _ _ | assumption | refine Below.alloc ?_ (by first | omega | (simp; done) | (simp; omega)) _ | refine Below.setCell ?_ (by first | omega | (simp; done) | (simp; omega)) _ | refine Below.drew ?_ | refine below_drewN ?_ _ | refine Below.next ?_ (by assumption)))⟩
set_option maxRecDepth 100000 in
set_option maxHeartbeats 4000000 in
theorem ps_w0sa (t : Task) (k : Look) (At1 : Option Addr) (ct1 : Nat) (w : World) (hl : t.starts.length ≤ ct1) (hc : ct1 ≤ maxLen) (hs : Kn.Sl (Kn.int .i64) w At1 t.starts) (h0 : 0 ≤ t.state) (hlen : ¬ 20 < t.starts.length) (e0 : t.err = 0) (hnx : nextF t k = ⟨1, 0⟩) (hex : k.expired = false) (hot : k.other = false) (ho : overB t.state = false) (s0 : (t.state == 0) = true) (s0' : (t.state != 0) = false) (hh : k.has = false) :
    Calls Try.prog 3 #[t.val At1 ct1, k.val] w fun e w' => e = .returned (.bool true) ∧ Below w.heap.size w w' := by
  have HCK := Lib.hid (fun W (hs : Kn.Sl (Kn.int .i64) W At1 t.starts) => by have hN := taskCheck_any t At1 ct1 W hl hc hs; rw [e0] at hN; simp only [Task.val] at hN; exact hN)
  have HS := Lib.hid hs
  clear hs
  have HNX := Lib.hid (fun W (hs : Kn.Sl (Kn.int .i64) W At1 t.starts) => by have hN := next_any t k At1 ct1 W hl hc hs h0; rw [hnx, e0] at hN; simp only [Task.val, Look.val, hex, hot, hh] at hN; exact hN)
  clear hnx e0 h0
  simp only [Task.val, Look.val, hex, hot, hh]
  go_enter Try.func3, Try.ntmps3
  go_wp2_with fail
  refine (HCK.out _ (Kn.Sl.below HS.out (by repeat (first | exact Below.refl _ _ | assumption | refine Below.alloc ?_ (by first | omega | (simp; done) | (simp; omega)) _ | refine Below.setCell ?_ (by first | omega | (simp; done) | (simp; omega)) _ | refine Below.drew ?_ | refine below_drewN ?_ _ | refine Below.next ?_ (by assumption))))).mono ?_
  rintro e w1 ⟨rfl, hb1⟩
  obtain ⟨hbc1, hbf1⟩ := bcell hb1
  have hz1 : w.heap.size + 1 + 1 ≤ w1.heap.size := by have := hb1.size; simp at this; omega
  go_wp2_with fail
  refine (HNX.out _ (Kn.Sl.below HS.out (by repeat (first | exact Below.refl _ _ | assumption | refine Below.alloc ?_ (by first | omega | (simp; done) | (simp; omega)) _ | refine Below.setCell ?_ (by first | omega | (simp; done) | (simp; omega)) _ | refine Below.drew ?_ | refine below_drewN ?_ _ | refine Below.next ?_ (by assumption))))).mono ?_
  rintro e w2 ⟨rfl, hb2⟩
  have hbc2 := fun b o (h : b < w.heap.size + 1 + 1) => (hb2.cell (p := ⟨b, o, none⟩) (by first | omega | (simp; done) | (simp; omega))).trans (hbc1 b o (by first | omega | (simp; done) | (simp; omega)))
  have hbf2 := fun b o (h : b < w.heap.size + 1 + 1) => (hb2.frozen (p := ⟨b, o, none⟩) (by first | omega | (simp; done) | (simp; omega))).trans (hbf1 b o (by first | omega | (simp; done) | (simp; omega)))
  have hz2 : w.heap.size + 1 + 1 ≤ w2.heap.size := Nat.le_trans hz1 hb2.size
  clear hbc1 hbf1
  have l0 : w.heap.size < w2.heap.size := by omega
  have l1 : w.heap.size + 1 < w2.heap.size := by omega
  simp only [Step.val]
  go_wp2_with (first
    | (go_at_call 8; refine (taskOver_any _ _).mono ?_; rintro e w' ⟨rfl, rfl⟩)
    | (go_at_call 9; refine (awake31_any _).mono ?_; rintro e w3 ⟨rfl, hb3⟩))
  all_goals
    go_ret
    exact ⟨rfl, (by repeat (first | exact Below.refl _ _ | assumption | refine Below.alloc ?_ (by first | omega | (simp; done) | (simp; omega)) _ | refine Below.setCell ?_ (by first | omega | (simp; done) | (simp; omega)) _ | refine Below.drew ?_ | refine below_drewN ?_ _ | refine Below.next ?_ (by assumption)))⟩
set_option maxRecDepth 100000 in
set_option maxHeartbeats 4000000 in
theorem ps_w0nb (t : Task) (k : Look) (At1 : Option Addr) (ct1 : Nat) (w : World) (hl : t.starts.length ≤ ct1) (hc : ct1 ≤ maxLen) (hs : Kn.Sl (Kn.int .i64) w At1 t.starts) (h0 : 0 ≤ t.state) (hlen : ¬ 20 < t.starts.length) (e0 : t.err = 0) (hnx : nextF t k = ⟨0, 0⟩) (ho : overB t.state = false) (s0 : (t.state == 0) = true) (s0' : (t.state != 0) = false) (hh : k.has = true) (ha : k.proc.alive = false) :
    Calls Try.prog 3 #[t.val At1 ct1, k.val] w fun e w' => e = .returned (.bool true) ∧ Below w.heap.size w w' := by
  have HCK := Lib.hid (fun W (hs : Kn.Sl (Kn.int .i64) W At1 t.starts) => by have hN := taskCheck_any t At1 ct1 W hl hc hs; rw [e0] at hN; simp only [Task.val] at hN; exact hN)
  have HS := Lib.hid hs
  clear hs
  have HNX := Lib.hid (fun W (hs : Kn.Sl (Kn.int .i64) W At1 t.starts) => by have hN := next_any t k At1 ct1 W hl hc hs h0; rw [hnx, e0] at hN; simp only [Task.val, Look.val, hh, ha] at hN; exact hN)
  clear hnx e0 h0
  simp only [Task.val, Look.val, hh, ha]
  go_enter Try.func3, Try.ntmps3
  go_wp2_with fail
  refine (HCK.out _ (Kn.Sl.below HS.out (by repeat (first | exact Below.refl _ _ | assumption | refine Below.alloc ?_ (by first | omega | (simp; done) | (simp; omega)) _ | refine Below.setCell ?_ (by first | omega | (simp; done) | (simp; omega)) _ | refine Below.drew ?_ | refine below_drewN ?_ _ | refine Below.next ?_ (by assumption))))).mono ?_
  rintro e w1 ⟨rfl, hb1⟩
  obtain ⟨hbc1, hbf1⟩ := bcell hb1
  have hz1 : w.heap.size + 1 + 1 ≤ w1.heap.size := by have := hb1.size; simp at this; omega
  go_wp2_with fail
  refine (HNX.out _ (Kn.Sl.below HS.out (by repeat (first | exact Below.refl _ _ | assumption | refine Below.alloc ?_ (by first | omega | (simp; done) | (simp; omega)) _ | refine Below.setCell ?_ (by first | omega | (simp; done) | (simp; omega)) _ | refine Below.drew ?_ | refine below_drewN ?_ _ | refine Below.next ?_ (by assumption))))).mono ?_
  rintro e w2 ⟨rfl, hb2⟩
  have hbc2 := fun b o (h : b < w.heap.size + 1 + 1) => (hb2.cell (p := ⟨b, o, none⟩) (by first | omega | (simp; done) | (simp; omega))).trans (hbc1 b o (by first | omega | (simp; done) | (simp; omega)))
  have hbf2 := fun b o (h : b < w.heap.size + 1 + 1) => (hb2.frozen (p := ⟨b, o, none⟩) (by first | omega | (simp; done) | (simp; omega))).trans (hbf1 b o (by first | omega | (simp; done) | (simp; omega)))
  have hz2 : w.heap.size + 1 + 1 ≤ w2.heap.size := Nat.le_trans hz1 hb2.size
  clear hbc1 hbf1
  have l0 : w.heap.size < w2.heap.size := by omega
  have l1 : w.heap.size + 1 < w2.heap.size := by omega
  simp only [Step.val]
  go_wp2_with (first
    | (go_at_call 8; refine (taskOver_any _ _).mono ?_; rintro e w' ⟨rfl, rfl⟩)
    | (go_at_call 9; refine (awake31_any _).mono ?_; rintro e w3 ⟨rfl, hb3⟩))
  all_goals
    go_ret
    exact ⟨rfl, (by repeat (first | exact Below.refl _ _ | assumption | refine Below.alloc ?_ (by first | omega | (simp; done) | (simp; omega)) _ | refine Below.setCell ?_ (by first | omega | (simp; done) | (simp; omega)) _ | refine Below.drew ?_ | refine below_drewN ?_ _ | refine Below.next ?_ (by assumption)))⟩
set_option maxRecDepth 100000 in
set_option maxHeartbeats 4000000 in
theorem ps_w0sb (t : Task) (k : Look) (At1 : Option Addr) (ct1 : Nat) (w : World) (hl : t.starts.length ≤ ct1) (hc : ct1 ≤ maxLen) (hs : Kn.Sl (Kn.int .i64) w At1 t.starts) (h0 : 0 ≤ t.state) (hlen : ¬ 20 < t.starts.length) (e0 : t.err = 0) (hnx : nextF t k = ⟨1, 0⟩) (hex : k.expired = false) (hot : k.other = false) (ho : overB t.state = false) (s0 : (t.state == 0) = true) (s0' : (t.state != 0) = false) (hh : k.has = true) (ha : k.proc.alive = false) :
    Calls Try.prog 3 #[t.val At1 ct1, k.val] w fun e w' => e = .returned (.bool true) ∧ Below w.heap.size w w' := by
  have HCK := Lib.hid (fun W (hs : Kn.Sl (Kn.int .i64) W At1 t.starts) => by have hN := taskCheck_any t At1 ct1 W hl hc hs; rw [e0] at hN; simp only [Task.val] at hN; exact hN)
  have HS := Lib.hid hs
  clear hs
  have HNX := Lib.hid (fun W (hs : Kn.Sl (Kn.int .i64) W At1 t.starts) => by have hN := next_any t k At1 ct1 W hl hc hs h0; rw [hnx, e0] at hN; simp only [Task.val, Look.val, hex, hot, hh, ha] at hN; exact hN)
  clear hnx e0 h0
  simp only [Task.val, Look.val, hex, hot, hh, ha]
  go_enter Try.func3, Try.ntmps3
  go_wp2_with fail
  refine (HCK.out _ (Kn.Sl.below HS.out (by repeat (first | exact Below.refl _ _ | assumption | refine Below.alloc ?_ (by first | omega | (simp; done) | (simp; omega)) _ | refine Below.setCell ?_ (by first | omega | (simp; done) | (simp; omega)) _ | refine Below.drew ?_ | refine below_drewN ?_ _ | refine Below.next ?_ (by assumption))))).mono ?_
  rintro e w1 ⟨rfl, hb1⟩
  obtain ⟨hbc1, hbf1⟩ := bcell hb1
  have hz1 : w.heap.size + 1 + 1 ≤ w1.heap.size := by have := hb1.size; simp at this; omega
  go_wp2_with fail
  refine (HNX.out _ (Kn.Sl.below HS.out (by repeat (first | exact Below.refl _ _ | assumption | refine Below.alloc ?_ (by first | omega | (simp; done) | (simp; omega)) _ | refine Below.setCell ?_ (by first | omega | (simp; done) | (simp; omega)) _ | refine Below.drew ?_ | refine below_drewN ?_ _ | refine Below.next ?_ (by assumption))))).mono ?_
  rintro e w2 ⟨rfl, hb2⟩
  have hbc2 := fun b o (h : b < w.heap.size + 1 + 1) => (hb2.cell (p := ⟨b, o, none⟩) (by first | omega | (simp; done) | (simp; omega))).trans (hbc1 b o (by first | omega | (simp; done) | (simp; omega)))
  have hbf2 := fun b o (h : b < w.heap.size + 1 + 1) => (hb2.frozen (p := ⟨b, o, none⟩) (by first | omega | (simp; done) | (simp; omega))).trans (hbf1 b o (by first | omega | (simp; done) | (simp; omega)))
  have hz2 : w.heap.size + 1 + 1 ≤ w2.heap.size := Nat.le_trans hz1 hb2.size
  clear hbc1 hbf1
  have l0 : w.heap.size < w2.heap.size := by omega
  have l1 : w.heap.size + 1 < w2.heap.size := by omega
  simp only [Step.val]
  go_wp2_with (first
    | (go_at_call 8; refine (taskOver_any _ _).mono ?_; rintro e w' ⟨rfl, rfl⟩)
    | (go_at_call 9; refine (awake31_any _).mono ?_; rintro e w3 ⟨rfl, hb3⟩))
  all_goals
    go_ret
    exact ⟨rfl, (by repeat (first | exact Below.refl _ _ | assumption | refine Below.alloc ?_ (by first | omega | (simp; done) | (simp; omega)) _ | refine Below.setCell ?_ (by first | omega | (simp; done) | (simp; omega)) _ | refine Below.drew ?_ | refine below_drewN ?_ _ | refine Below.next ?_ (by assumption)))⟩
set_option maxRecDepth 100000 in
set_option maxHeartbeats 4000000 in
theorem ps_w0nc (t : Task) (k : Look) (At1 : Option Addr) (ct1 : Nat) (w : World) (hl : t.starts.length ≤ ct1) (hc : ct1 ≤ maxLen) (hs : Kn.Sl (Kn.int .i64) w At1 t.starts) (h0 : 0 ≤ t.state) (hlen : ¬ 20 < t.starts.length) (e0 : t.err = 0) (hnx : nextF t k = ⟨0, 0⟩) (ho : overB t.state = false) (s0 : (t.state == 0) = true) (s0' : (t.state != 0) = false) (hh : k.has = true) (ha : k.proc.alive = true) :
    Calls Try.prog 3 #[t.val At1 ct1, k.val] w fun e w' => e = .returned (.bool true) ∧ Below w.heap.size w w' := by
  have HCK := Lib.hid (fun W (hs : Kn.Sl (Kn.int .i64) W At1 t.starts) => by have hN := taskCheck_any t At1 ct1 W hl hc hs; rw [e0] at hN; simp only [Task.val] at hN; exact hN)
  have HS := Lib.hid hs
  clear hs
  have HNX := Lib.hid (fun W (hs : Kn.Sl (Kn.int .i64) W At1 t.starts) => by have hN := next_any t k At1 ct1 W hl hc hs h0; rw [hnx, e0] at hN; simp only [Task.val, Look.val, hh, ha] at hN; exact hN)
  clear hnx e0 h0
  simp only [Task.val, Look.val, hh, ha]
  go_enter Try.func3, Try.ntmps3
  go_wp2_with fail
  refine (HCK.out _ (Kn.Sl.below HS.out (by repeat (first | exact Below.refl _ _ | assumption | refine Below.alloc ?_ (by first | omega | (simp; done) | (simp; omega)) _ | refine Below.setCell ?_ (by first | omega | (simp; done) | (simp; omega)) _ | refine Below.drew ?_ | refine below_drewN ?_ _ | refine Below.next ?_ (by assumption))))).mono ?_
  rintro e w1 ⟨rfl, hb1⟩
  obtain ⟨hbc1, hbf1⟩ := bcell hb1
  have hz1 : w.heap.size + 1 + 1 ≤ w1.heap.size := by have := hb1.size; simp at this; omega
  go_wp2_with fail
  refine (HNX.out _ (Kn.Sl.below HS.out (by repeat (first | exact Below.refl _ _ | assumption | refine Below.alloc ?_ (by first | omega | (simp; done) | (simp; omega)) _ | refine Below.setCell ?_ (by first | omega | (simp; done) | (simp; omega)) _ | refine Below.drew ?_ | refine below_drewN ?_ _ | refine Below.next ?_ (by assumption))))).mono ?_
  rintro e w2 ⟨rfl, hb2⟩
  have hbc2 := fun b o (h : b < w.heap.size + 1 + 1) => (hb2.cell (p := ⟨b, o, none⟩) (by first | omega | (simp; done) | (simp; omega))).trans (hbc1 b o (by first | omega | (simp; done) | (simp; omega)))
  have hbf2 := fun b o (h : b < w.heap.size + 1 + 1) => (hb2.frozen (p := ⟨b, o, none⟩) (by first | omega | (simp; done) | (simp; omega))).trans (hbf1 b o (by first | omega | (simp; done) | (simp; omega)))
  have hz2 : w.heap.size + 1 + 1 ≤ w2.heap.size := Nat.le_trans hz1 hb2.size
  clear hbc1 hbf1
  have l0 : w.heap.size < w2.heap.size := by omega
  have l1 : w.heap.size + 1 < w2.heap.size := by omega
  simp only [Step.val]
  go_wp2_with (first
    | (go_at_call 8; refine (taskOver_any _ _).mono ?_; rintro e w' ⟨rfl, rfl⟩)
    | (go_at_call 9; refine (awake31_any _).mono ?_; rintro e w3 ⟨rfl, hb3⟩))
  all_goals
    go_ret
    exact ⟨rfl, (by repeat (first | exact Below.refl _ _ | assumption | refine Below.alloc ?_ (by first | omega | (simp; done) | (simp; omega)) _ | refine Below.setCell ?_ (by first | omega | (simp; done) | (simp; omega)) _ | refine Below.drew ?_ | refine below_drewN ?_ _ | refine Below.next ?_ (by assumption)))⟩
set_option maxRecDepth 100000 in
set_option maxHeartbeats 4000000 in
theorem ps_w0sc (t : Task) (k : Look) (At1 : Option Addr) (ct1 : Nat) (w : World) (hl : t.starts.length ≤ ct1) (hc : ct1 ≤ maxLen) (hs : Kn.Sl (Kn.int .i64) w At1 t.starts) (h0 : 0 ≤ t.state) (hlen : ¬ 20 < t.starts.length) (e0 : t.err = 0) (hnx : nextF t k = ⟨1, 0⟩) (hex : k.expired = false) (hot : k.other = false) (ho : overB t.state = false) (s0 : (t.state == 0) = true) (s0' : (t.state != 0) = false) (hh : k.has = true) (ha : k.proc.alive = true) :
    Calls Try.prog 3 #[t.val At1 ct1, k.val] w fun e w' => e = .returned (.bool true) ∧ Below w.heap.size w w' := by
  have HCK := Lib.hid (fun W (hs : Kn.Sl (Kn.int .i64) W At1 t.starts) => by have hN := taskCheck_any t At1 ct1 W hl hc hs; rw [e0] at hN; simp only [Task.val] at hN; exact hN)
  have HS := Lib.hid hs
  clear hs
  have HNX := Lib.hid (fun W (hs : Kn.Sl (Kn.int .i64) W At1 t.starts) => by have hN := next_any t k At1 ct1 W hl hc hs h0; rw [hnx, e0] at hN; simp only [Task.val, Look.val, hex, hot, hh, ha] at hN; exact hN)
  clear hnx e0 h0
  simp only [Task.val, Look.val, hex, hot, hh, ha]
  go_enter Try.func3, Try.ntmps3
  go_wp2_with fail
  refine (HCK.out _ (Kn.Sl.below HS.out (by repeat (first | exact Below.refl _ _ | assumption | refine Below.alloc ?_ (by first | omega | (simp; done) | (simp; omega)) _ | refine Below.setCell ?_ (by first | omega | (simp; done) | (simp; omega)) _ | refine Below.drew ?_ | refine below_drewN ?_ _ | refine Below.next ?_ (by assumption))))).mono ?_
  rintro e w1 ⟨rfl, hb1⟩
  obtain ⟨hbc1, hbf1⟩ := bcell hb1
  have hz1 : w.heap.size + 1 + 1 ≤ w1.heap.size := by have := hb1.size; simp at this; omega
  go_wp2_with fail
  refine (HNX.out _ (Kn.Sl.below HS.out (by repeat (first | exact Below.refl _ _ | assumption | refine Below.alloc ?_ (by first | omega | (simp; done) | (simp; omega)) _ | refine Below.setCell ?_ (by first | omega | (simp; done) | (simp; omega)) _ | refine Below.drew ?_ | refine below_drewN ?_ _ | refine Below.next ?_ (by assumption))))).mono ?_
  rintro e w2 ⟨rfl, hb2⟩
  have hbc2 := fun b o (h : b < w.heap.size + 1 + 1) => (hb2.cell (p := ⟨b, o, none⟩) (by first | omega | (simp; done) | (simp; omega))).trans (hbc1 b o (by first | omega | (simp; done) | (simp; omega)))
  have hbf2 := fun b o (h : b < w.heap.size + 1 + 1) => (hb2.frozen (p := ⟨b, o, none⟩) (by first | omega | (simp; done) | (simp; omega))).trans (hbf1 b o (by first | omega | (simp; done) | (simp; omega)))
  have hz2 : w.heap.size + 1 + 1 ≤ w2.heap.size := Nat.le_trans hz1 hb2.size
  clear hbc1 hbf1
  have l0 : w.heap.size < w2.heap.size := by omega
  have l1 : w.heap.size + 1 < w2.heap.size := by omega
  simp only [Step.val]
  go_wp2_with (first
    | (go_at_call 8; refine (taskOver_any _ _).mono ?_; rintro e w' ⟨rfl, rfl⟩)
    | (go_at_call 9; refine (awake31_any _).mono ?_; rintro e w3 ⟨rfl, hb3⟩))
  all_goals
    go_ret
    exact ⟨rfl, (by repeat (first | exact Below.refl _ _ | assumption | refine Below.alloc ?_ (by first | omega | (simp; done) | (simp; omega)) _ | refine Below.setCell ?_ (by first | omega | (simp; done) | (simp; omega)) _ | refine Below.drew ?_ | refine below_drewN ?_ _ | refine Below.next ?_ (by assumption)))⟩
set_option maxRecDepth 100000 in
set_option maxHeartbeats 4000000 in
theorem ps_w3na (t : Task) (k : Look) (At1 : Option Addr) (ct1 : Nat) (w : World) (hl : t.starts.length ≤ ct1) (hc : ct1 ≤ maxLen) (hs : Kn.Sl (Kn.int .i64) w At1 t.starts) (h0 : 0 ≤ t.state) (hlen : ¬ 20 < t.starts.length) (e0 : t.err = 0) (hnx : nextF t k = ⟨0, 0⟩) (ho : overB t.state = false) (s0 : (t.state == 0) = false) (s0' : (t.state != 0) = true) (s3 : (t.state == 3) = true) (s3' : (t.state != 3) = false) (hh : k.has = false) :
    Calls Try.prog 3 #[t.val At1 ct1, k.val] w fun e w' => e = .returned (.bool true) ∧ Below w.heap.size w w' := by
  have HCK := Lib.hid (fun W (hs : Kn.Sl (Kn.int .i64) W At1 t.starts) => by have hN := taskCheck_any t At1 ct1 W hl hc hs; rw [e0] at hN; simp only [Task.val] at hN; exact hN)
  have HS := Lib.hid hs
  clear hs
  have HNX := Lib.hid (fun W (hs : Kn.Sl (Kn.int .i64) W At1 t.starts) => by have hN := next_any t k At1 ct1 W hl hc hs h0; rw [hnx, e0] at hN; simp only [Task.val, Look.val, hh] at hN; exact hN)
  clear hnx e0 h0
  simp only [Task.val, Look.val, hh]
  go_enter Try.func3, Try.ntmps3
  go_wp2_with fail
  refine (HCK.out _ (Kn.Sl.below HS.out (by repeat (first | exact Below.refl _ _ | assumption | refine Below.alloc ?_ (by first | omega | (simp; done) | (simp; omega)) _ | refine Below.setCell ?_ (by first | omega | (simp; done) | (simp; omega)) _ | refine Below.drew ?_ | refine below_drewN ?_ _ | refine Below.next ?_ (by assumption))))).mono ?_
  rintro e w1 ⟨rfl, hb1⟩
  obtain ⟨hbc1, hbf1⟩ := bcell hb1
  have hz1 : w.heap.size + 1 + 1 ≤ w1.heap.size := by have := hb1.size; simp at this; omega
  go_wp2_with fail
  refine (HNX.out _ (Kn.Sl.below HS.out (by repeat (first | exact Below.refl _ _ | assumption | refine Below.alloc ?_ (by first | omega | (simp; done) | (simp; omega)) _ | refine Below.setCell ?_ (by first | omega | (simp; done) | (simp; omega)) _ | refine Below.drew ?_ | refine below_drewN ?_ _ | refine Below.next ?_ (by assumption))))).mono ?_
  rintro e w2 ⟨rfl, hb2⟩
  have hbc2 := fun b o (h : b < w.heap.size + 1 + 1) => (hb2.cell (p := ⟨b, o, none⟩) (by first | omega | (simp; done) | (simp; omega))).trans (hbc1 b o (by first | omega | (simp; done) | (simp; omega)))
  have hbf2 := fun b o (h : b < w.heap.size + 1 + 1) => (hb2.frozen (p := ⟨b, o, none⟩) (by first | omega | (simp; done) | (simp; omega))).trans (hbf1 b o (by first | omega | (simp; done) | (simp; omega)))
  have hz2 : w.heap.size + 1 + 1 ≤ w2.heap.size := Nat.le_trans hz1 hb2.size
  clear hbc1 hbf1
  have l0 : w.heap.size < w2.heap.size := by omega
  have l1 : w.heap.size + 1 < w2.heap.size := by omega
  simp only [Step.val]
  go_wp2_with (first
    | (go_at_call 8; refine (taskOver_any _ _).mono ?_; rintro e w' ⟨rfl, rfl⟩)
    | (go_at_call 9; refine (awake31_any _).mono ?_; rintro e w3 ⟨rfl, hb3⟩))
  all_goals
    go_ret
    exact ⟨rfl, (by repeat (first | exact Below.refl _ _ | assumption | refine Below.alloc ?_ (by first | omega | (simp; done) | (simp; omega)) _ | refine Below.setCell ?_ (by first | omega | (simp; done) | (simp; omega)) _ | refine Below.drew ?_ | refine below_drewN ?_ _ | refine Below.next ?_ (by assumption)))⟩
set_option maxRecDepth 100000 in
set_option maxHeartbeats 4000000 in
theorem ps_w3sa (t : Task) (k : Look) (At1 : Option Addr) (ct1 : Nat) (w : World) (hl : t.starts.length ≤ ct1) (hc : ct1 ≤ maxLen) (hs : Kn.Sl (Kn.int .i64) w At1 t.starts) (h0 : 0 ≤ t.state) (hlen : ¬ 20 < t.starts.length) (e0 : t.err = 0) (hnx : nextF t k = ⟨1, 0⟩) (hex : k.expired = false) (hot : k.other = false) (ho : overB t.state = false) (s0 : (t.state == 0) = false) (s0' : (t.state != 0) = true) (s3 : (t.state == 3) = true) (s3' : (t.state != 3) = false) (hh : k.has = false) :
    Calls Try.prog 3 #[t.val At1 ct1, k.val] w fun e w' => e = .returned (.bool true) ∧ Below w.heap.size w w' := by
  have HCK := Lib.hid (fun W (hs : Kn.Sl (Kn.int .i64) W At1 t.starts) => by have hN := taskCheck_any t At1 ct1 W hl hc hs; rw [e0] at hN; simp only [Task.val] at hN; exact hN)
  have HS := Lib.hid hs
  clear hs
  have HNX := Lib.hid (fun W (hs : Kn.Sl (Kn.int .i64) W At1 t.starts) => by have hN := next_any t k At1 ct1 W hl hc hs h0; rw [hnx, e0] at hN; simp only [Task.val, Look.val, hex, hot, hh] at hN; exact hN)
  clear hnx e0 h0
  simp only [Task.val, Look.val, hex, hot, hh]
  go_enter Try.func3, Try.ntmps3
  go_wp2_with fail
  refine (HCK.out _ (Kn.Sl.below HS.out (by repeat (first | exact Below.refl _ _ | assumption | refine Below.alloc ?_ (by first | omega | (simp; done) | (simp; omega)) _ | refine Below.setCell ?_ (by first | omega | (simp; done) | (simp; omega)) _ | refine Below.drew ?_ | refine below_drewN ?_ _ | refine Below.next ?_ (by assumption))))).mono ?_
  rintro e w1 ⟨rfl, hb1⟩
  obtain ⟨hbc1, hbf1⟩ := bcell hb1
  have hz1 : w.heap.size + 1 + 1 ≤ w1.heap.size := by have := hb1.size; simp at this; omega
  go_wp2_with fail
  refine (HNX.out _ (Kn.Sl.below HS.out (by repeat (first | exact Below.refl _ _ | assumption | refine Below.alloc ?_ (by first | omega | (simp; done) | (simp; omega)) _ | refine Below.setCell ?_ (by first | omega | (simp; done) | (simp; omega)) _ | refine Below.drew ?_ | refine below_drewN ?_ _ | refine Below.next ?_ (by assumption))))).mono ?_
  rintro e w2 ⟨rfl, hb2⟩
  have hbc2 := fun b o (h : b < w.heap.size + 1 + 1) => (hb2.cell (p := ⟨b, o, none⟩) (by first | omega | (simp; done) | (simp; omega))).trans (hbc1 b o (by first | omega | (simp; done) | (simp; omega)))
  have hbf2 := fun b o (h : b < w.heap.size + 1 + 1) => (hb2.frozen (p := ⟨b, o, none⟩) (by first | omega | (simp; done) | (simp; omega))).trans (hbf1 b o (by first | omega | (simp; done) | (simp; omega)))
  have hz2 : w.heap.size + 1 + 1 ≤ w2.heap.size := Nat.le_trans hz1 hb2.size
  clear hbc1 hbf1
  have l0 : w.heap.size < w2.heap.size := by omega
  have l1 : w.heap.size + 1 < w2.heap.size := by omega
  simp only [Step.val]
  go_wp2_with (first
    | (go_at_call 8; refine (taskOver_any _ _).mono ?_; rintro e w' ⟨rfl, rfl⟩)
    | (go_at_call 9; refine (awake31_any _).mono ?_; rintro e w3 ⟨rfl, hb3⟩))
  all_goals
    go_ret
    exact ⟨rfl, (by repeat (first | exact Below.refl _ _ | assumption | refine Below.alloc ?_ (by first | omega | (simp; done) | (simp; omega)) _ | refine Below.setCell ?_ (by first | omega | (simp; done) | (simp; omega)) _ | refine Below.drew ?_ | refine below_drewN ?_ _ | refine Below.next ?_ (by assumption)))⟩
set_option maxRecDepth 100000 in
set_option maxHeartbeats 4000000 in
theorem ps_w3nb (t : Task) (k : Look) (At1 : Option Addr) (ct1 : Nat) (w : World) (hl : t.starts.length ≤ ct1) (hc : ct1 ≤ maxLen) (hs : Kn.Sl (Kn.int .i64) w At1 t.starts) (h0 : 0 ≤ t.state) (hlen : ¬ 20 < t.starts.length) (e0 : t.err = 0) (hnx : nextF t k = ⟨0, 0⟩) (ho : overB t.state = false) (s0 : (t.state == 0) = false) (s0' : (t.state != 0) = true) (s3 : (t.state == 3) = true) (s3' : (t.state != 3) = false) (hh : k.has = true) (ha : k.proc.alive = false) :
    Calls Try.prog 3 #[t.val At1 ct1, k.val] w fun e w' => e = .returned (.bool true) ∧ Below w.heap.size w w' := by
  have HCK := Lib.hid (fun W (hs : Kn.Sl (Kn.int .i64) W At1 t.starts) => by have hN := taskCheck_any t At1 ct1 W hl hc hs; rw [e0] at hN; simp only [Task.val] at hN; exact hN)
  have HS := Lib.hid hs
  clear hs
  have HNX := Lib.hid (fun W (hs : Kn.Sl (Kn.int .i64) W At1 t.starts) => by have hN := next_any t k At1 ct1 W hl hc hs h0; rw [hnx, e0] at hN; simp only [Task.val, Look.val, hh, ha] at hN; exact hN)
  clear hnx e0 h0
  simp only [Task.val, Look.val, hh, ha]
  go_enter Try.func3, Try.ntmps3
  go_wp2_with fail
  refine (HCK.out _ (Kn.Sl.below HS.out (by repeat (first | exact Below.refl _ _ | assumption | refine Below.alloc ?_ (by first | omega | (simp; done) | (simp; omega)) _ | refine Below.setCell ?_ (by first | omega | (simp; done) | (simp; omega)) _ | refine Below.drew ?_ | refine below_drewN ?_ _ | refine Below.next ?_ (by assumption))))).mono ?_
  rintro e w1 ⟨rfl, hb1⟩
  obtain ⟨hbc1, hbf1⟩ := bcell hb1
  have hz1 : w.heap.size + 1 + 1 ≤ w1.heap.size := by have := hb1.size; simp at this; omega
  go_wp2_with fail
  refine (HNX.out _ (Kn.Sl.below HS.out (by repeat (first | exact Below.refl _ _ | assumption | refine Below.alloc ?_ (by first | omega | (simp; done) | (simp; omega)) _ | refine Below.setCell ?_ (by first | omega | (simp; done) | (simp; omega)) _ | refine Below.drew ?_ | refine below_drewN ?_ _ | refine Below.next ?_ (by assumption))))).mono ?_
  rintro e w2 ⟨rfl, hb2⟩
  have hbc2 := fun b o (h : b < w.heap.size + 1 + 1) => (hb2.cell (p := ⟨b, o, none⟩) (by first | omega | (simp; done) | (simp; omega))).trans (hbc1 b o (by first | omega | (simp; done) | (simp; omega)))
  have hbf2 := fun b o (h : b < w.heap.size + 1 + 1) => (hb2.frozen (p := ⟨b, o, none⟩) (by first | omega | (simp; done) | (simp; omega))).trans (hbf1 b o (by first | omega | (simp; done) | (simp; omega)))
  have hz2 : w.heap.size + 1 + 1 ≤ w2.heap.size := Nat.le_trans hz1 hb2.size
  clear hbc1 hbf1
  have l0 : w.heap.size < w2.heap.size := by omega
  have l1 : w.heap.size + 1 < w2.heap.size := by omega
  simp only [Step.val]
  go_wp2_with (first
    | (go_at_call 8; refine (taskOver_any _ _).mono ?_; rintro e w' ⟨rfl, rfl⟩)
    | (go_at_call 9; refine (awake31_any _).mono ?_; rintro e w3 ⟨rfl, hb3⟩))
  all_goals
    go_ret
    exact ⟨rfl, (by repeat (first | exact Below.refl _ _ | assumption | refine Below.alloc ?_ (by first | omega | (simp; done) | (simp; omega)) _ | refine Below.setCell ?_ (by first | omega | (simp; done) | (simp; omega)) _ | refine Below.drew ?_ | refine below_drewN ?_ _ | refine Below.next ?_ (by assumption)))⟩
set_option maxRecDepth 100000 in
set_option maxHeartbeats 4000000 in
theorem ps_w3sb (t : Task) (k : Look) (At1 : Option Addr) (ct1 : Nat) (w : World) (hl : t.starts.length ≤ ct1) (hc : ct1 ≤ maxLen) (hs : Kn.Sl (Kn.int .i64) w At1 t.starts) (h0 : 0 ≤ t.state) (hlen : ¬ 20 < t.starts.length) (e0 : t.err = 0) (hnx : nextF t k = ⟨1, 0⟩) (hex : k.expired = false) (hot : k.other = false) (ho : overB t.state = false) (s0 : (t.state == 0) = false) (s0' : (t.state != 0) = true) (s3 : (t.state == 3) = true) (s3' : (t.state != 3) = false) (hh : k.has = true) (ha : k.proc.alive = false) :
    Calls Try.prog 3 #[t.val At1 ct1, k.val] w fun e w' => e = .returned (.bool true) ∧ Below w.heap.size w w' := by
  have HCK := Lib.hid (fun W (hs : Kn.Sl (Kn.int .i64) W At1 t.starts) => by have hN := taskCheck_any t At1 ct1 W hl hc hs; rw [e0] at hN; simp only [Task.val] at hN; exact hN)
  have HS := Lib.hid hs
  clear hs
  have HNX := Lib.hid (fun W (hs : Kn.Sl (Kn.int .i64) W At1 t.starts) => by have hN := next_any t k At1 ct1 W hl hc hs h0; rw [hnx, e0] at hN; simp only [Task.val, Look.val, hex, hot, hh, ha] at hN; exact hN)
  clear hnx e0 h0
  simp only [Task.val, Look.val, hex, hot, hh, ha]
  go_enter Try.func3, Try.ntmps3
  go_wp2_with fail
  refine (HCK.out _ (Kn.Sl.below HS.out (by repeat (first | exact Below.refl _ _ | assumption | refine Below.alloc ?_ (by first | omega | (simp; done) | (simp; omega)) _ | refine Below.setCell ?_ (by first | omega | (simp; done) | (simp; omega)) _ | refine Below.drew ?_ | refine below_drewN ?_ _ | refine Below.next ?_ (by assumption))))).mono ?_
  rintro e w1 ⟨rfl, hb1⟩
  obtain ⟨hbc1, hbf1⟩ := bcell hb1
  have hz1 : w.heap.size + 1 + 1 ≤ w1.heap.size := by have := hb1.size; simp at this; omega
  go_wp2_with fail
  refine (HNX.out _ (Kn.Sl.below HS.out (by repeat (first | exact Below.refl _ _ | assumption | refine Below.alloc ?_ (by first | omega | (simp; done) | (simp; omega)) _ | refine Below.setCell ?_ (by first | omega | (simp; done) | (simp; omega)) _ | refine Below.drew ?_ | refine below_drewN ?_ _ | refine Below.next ?_ (by assumption))))).mono ?_
  rintro e w2 ⟨rfl, hb2⟩
  have hbc2 := fun b o (h : b < w.heap.size + 1 + 1) => (hb2.cell (p := ⟨b, o, none⟩) (by first | omega | (simp; done) | (simp; omega))).trans (hbc1 b o (by first | omega | (simp; done) | (simp; omega)))
  have hbf2 := fun b o (h : b < w.heap.size + 1 + 1) => (hb2.frozen (p := ⟨b, o, none⟩) (by first | omega | (simp; done) | (simp; omega))).trans (hbf1 b o (by first | omega | (simp; done) | (simp; omega)))
  have hz2 : w.heap.size + 1 + 1 ≤ w2.heap.size := Nat.le_trans hz1 hb2.size
  clear hbc1 hbf1
  have l0 : w.heap.size < w2.heap.size := by omega
  have l1 : w.heap.size + 1 < w2.heap.size := by omega
  simp only [Step.val]
  go_wp2_with (first
    | (go_at_call 8; refine (taskOver_any _ _).mono ?_; rintro e w' ⟨rfl, rfl⟩)
    | (go_at_call 9; refine (awake31_any _).mono ?_; rintro e w3 ⟨rfl, hb3⟩))
  all_goals
    go_ret
    exact ⟨rfl, (by repeat (first | exact Below.refl _ _ | assumption | refine Below.alloc ?_ (by first | omega | (simp; done) | (simp; omega)) _ | refine Below.setCell ?_ (by first | omega | (simp; done) | (simp; omega)) _ | refine Below.drew ?_ | refine below_drewN ?_ _ | refine Below.next ?_ (by assumption)))⟩
set_option maxRecDepth 100000 in
set_option maxHeartbeats 4000000 in
theorem ps_w3nc (t : Task) (k : Look) (At1 : Option Addr) (ct1 : Nat) (w : World) (hl : t.starts.length ≤ ct1) (hc : ct1 ≤ maxLen) (hs : Kn.Sl (Kn.int .i64) w At1 t.starts) (h0 : 0 ≤ t.state) (hlen : ¬ 20 < t.starts.length) (e0 : t.err = 0) (hnx : nextF t k = ⟨0, 0⟩) (ho : overB t.state = false) (s0 : (t.state == 0) = false) (s0' : (t.state != 0) = true) (s3 : (t.state == 3) = true) (s3' : (t.state != 3) = false) (hh : k.has = true) (ha : k.proc.alive = true) :
    Calls Try.prog 3 #[t.val At1 ct1, k.val] w fun e w' => e = .returned (.bool true) ∧ Below w.heap.size w w' := by
  have HCK := Lib.hid (fun W (hs : Kn.Sl (Kn.int .i64) W At1 t.starts) => by have hN := taskCheck_any t At1 ct1 W hl hc hs; rw [e0] at hN; simp only [Task.val] at hN; exact hN)
  have HS := Lib.hid hs
  clear hs
  have HNX := Lib.hid (fun W (hs : Kn.Sl (Kn.int .i64) W At1 t.starts) => by have hN := next_any t k At1 ct1 W hl hc hs h0; rw [hnx, e0] at hN; simp only [Task.val, Look.val, hh, ha] at hN; exact hN)
  clear hnx e0 h0
  simp only [Task.val, Look.val, hh, ha]
  go_enter Try.func3, Try.ntmps3
  go_wp2_with fail
  refine (HCK.out _ (Kn.Sl.below HS.out (by repeat (first | exact Below.refl _ _ | assumption | refine Below.alloc ?_ (by first | omega | (simp; done) | (simp; omega)) _ | refine Below.setCell ?_ (by first | omega | (simp; done) | (simp; omega)) _ | refine Below.drew ?_ | refine below_drewN ?_ _ | refine Below.next ?_ (by assumption))))).mono ?_
  rintro e w1 ⟨rfl, hb1⟩
  obtain ⟨hbc1, hbf1⟩ := bcell hb1
  have hz1 : w.heap.size + 1 + 1 ≤ w1.heap.size := by have := hb1.size; simp at this; omega
  go_wp2_with fail
  refine (HNX.out _ (Kn.Sl.below HS.out (by repeat (first | exact Below.refl _ _ | assumption | refine Below.alloc ?_ (by first | omega | (simp; done) | (simp; omega)) _ | refine Below.setCell ?_ (by first | omega | (simp; done) | (simp; omega)) _ | refine Below.drew ?_ | refine below_drewN ?_ _ | refine Below.next ?_ (by assumption))))).mono ?_
  rintro e w2 ⟨rfl, hb2⟩
  have hbc2 := fun b o (h : b < w.heap.size + 1 + 1) => (hb2.cell (p := ⟨b, o, none⟩) (by first | omega | (simp; done) | (simp; omega))).trans (hbc1 b o (by first | omega | (simp; done) | (simp; omega)))
  have hbf2 := fun b o (h : b < w.heap.size + 1 + 1) => (hb2.frozen (p := ⟨b, o, none⟩) (by first | omega | (simp; done) | (simp; omega))).trans (hbf1 b o (by first | omega | (simp; done) | (simp; omega)))
  have hz2 : w.heap.size + 1 + 1 ≤ w2.heap.size := Nat.le_trans hz1 hb2.size
  clear hbc1 hbf1
  have l0 : w.heap.size < w2.heap.size := by omega
  have l1 : w.heap.size + 1 < w2.heap.size := by omega
  simp only [Step.val]
  go_wp2_with (first
    | (go_at_call 8; refine (taskOver_any _ _).mono ?_; rintro e w' ⟨rfl, rfl⟩)
    | (go_at_call 9; refine (awake31_any _).mono ?_; rintro e w3 ⟨rfl, hb3⟩))
  all_goals
    go_ret
    exact ⟨rfl, (by repeat (first | exact Below.refl _ _ | assumption | refine Below.alloc ?_ (by first | omega | (simp; done) | (simp; omega)) _ | refine Below.setCell ?_ (by first | omega | (simp; done) | (simp; omega)) _ | refine Below.drew ?_ | refine below_drewN ?_ _ | refine Below.next ?_ (by assumption)))⟩
set_option maxRecDepth 100000 in
set_option maxHeartbeats 4000000 in
theorem ps_w3sc (t : Task) (k : Look) (At1 : Option Addr) (ct1 : Nat) (w : World) (hl : t.starts.length ≤ ct1) (hc : ct1 ≤ maxLen) (hs : Kn.Sl (Kn.int .i64) w At1 t.starts) (h0 : 0 ≤ t.state) (hlen : ¬ 20 < t.starts.length) (e0 : t.err = 0) (hnx : nextF t k = ⟨1, 0⟩) (hex : k.expired = false) (hot : k.other = false) (ho : overB t.state = false) (s0 : (t.state == 0) = false) (s0' : (t.state != 0) = true) (s3 : (t.state == 3) = true) (s3' : (t.state != 3) = false) (hh : k.has = true) (ha : k.proc.alive = true) :
    Calls Try.prog 3 #[t.val At1 ct1, k.val] w fun e w' => e = .returned (.bool true) ∧ Below w.heap.size w w' := by
  have HCK := Lib.hid (fun W (hs : Kn.Sl (Kn.int .i64) W At1 t.starts) => by have hN := taskCheck_any t At1 ct1 W hl hc hs; rw [e0] at hN; simp only [Task.val] at hN; exact hN)
  have HS := Lib.hid hs
  clear hs
  have HNX := Lib.hid (fun W (hs : Kn.Sl (Kn.int .i64) W At1 t.starts) => by have hN := next_any t k At1 ct1 W hl hc hs h0; rw [hnx, e0] at hN; simp only [Task.val, Look.val, hex, hot, hh, ha] at hN; exact hN)
  clear hnx e0 h0
  simp only [Task.val, Look.val, hex, hot, hh, ha]
  go_enter Try.func3, Try.ntmps3
  go_wp2_with fail
  refine (HCK.out _ (Kn.Sl.below HS.out (by repeat (first | exact Below.refl _ _ | assumption | refine Below.alloc ?_ (by first | omega | (simp; done) | (simp; omega)) _ | refine Below.setCell ?_ (by first | omega | (simp; done) | (simp; omega)) _ | refine Below.drew ?_ | refine below_drewN ?_ _ | refine Below.next ?_ (by assumption))))).mono ?_
  rintro e w1 ⟨rfl, hb1⟩
  obtain ⟨hbc1, hbf1⟩ := bcell hb1
  have hz1 : w.heap.size + 1 + 1 ≤ w1.heap.size := by have := hb1.size; simp at this; omega
  go_wp2_with fail
  refine (HNX.out _ (Kn.Sl.below HS.out (by repeat (first | exact Below.refl _ _ | assumption | refine Below.alloc ?_ (by first | omega | (simp; done) | (simp; omega)) _ | refine Below.setCell ?_ (by first | omega | (simp; done) | (simp; omega)) _ | refine Below.drew ?_ | refine below_drewN ?_ _ | refine Below.next ?_ (by assumption))))).mono ?_
  rintro e w2 ⟨rfl, hb2⟩
  have hbc2 := fun b o (h : b < w.heap.size + 1 + 1) => (hb2.cell (p := ⟨b, o, none⟩) (by first | omega | (simp; done) | (simp; omega))).trans (hbc1 b o (by first | omega | (simp; done) | (simp; omega)))
  have hbf2 := fun b o (h : b < w.heap.size + 1 + 1) => (hb2.frozen (p := ⟨b, o, none⟩) (by first | omega | (simp; done) | (simp; omega))).trans (hbf1 b o (by first | omega | (simp; done) | (simp; omega)))
  have hz2 : w.heap.size + 1 + 1 ≤ w2.heap.size := Nat.le_trans hz1 hb2.size
  clear hbc1 hbf1
  have l0 : w.heap.size < w2.heap.size := by omega
  have l1 : w.heap.size + 1 < w2.heap.size := by omega
  simp only [Step.val]
  go_wp2_with (first
    | (go_at_call 8; refine (taskOver_any _ _).mono ?_; rintro e w' ⟨rfl, rfl⟩)
    | (go_at_call 9; refine (awake31_any _).mono ?_; rintro e w3 ⟨rfl, hb3⟩))
  all_goals
    go_ret
    exact ⟨rfl, (by repeat (first | exact Below.refl _ _ | assumption | refine Below.alloc ?_ (by first | omega | (simp; done) | (simp; omega)) _ | refine Below.setCell ?_ (by first | omega | (simp; done) | (simp; omega)) _ | refine Below.drew ?_ | refine below_drewN ?_ _ | refine Below.next ?_ (by assumption)))⟩
set_option maxRecDepth 100000 in
set_option maxHeartbeats 4000000 in
theorem ps_l1 (t : Task) (k : Look) (At1 : Option Addr) (ct1 : Nat) (w : World) (hl : t.starts.length ≤ ct1) (hc : ct1 ≤ maxLen) (hs : Kn.Sl (Kn.int .i64) w At1 t.starts) (h0 : 0 ≤ t.state) (hlen : ¬ 20 < t.starts.length) (e0 : t.err = 0) (hnx : nextF t k = ⟨3, -1⟩) (ho : overB t.state = false) (s0 : (t.state == 0) = false) (s0' : (t.state != 0) = true) (s3 : (t.state == 3) = false) (s3' : (t.state != 3) = true) (hh : k.has = false) :
    Calls Try.prog 3 #[t.val At1 ct1, k.val] w fun e w' => e = .returned (.bool true) ∧ Below w.heap.size w w' := by
  have HCK := Lib.hid (fun W (hs : Kn.Sl (Kn.int .i64) W At1 t.starts) => by have hN := taskCheck_any t At1 ct1 W hl hc hs; rw [e0] at hN; simp only [Task.val] at hN; exact hN)
  have HS := Lib.hid hs
  clear hs
  have HNX := Lib.hid (fun W (hs : Kn.Sl (Kn.int .i64) W At1 t.starts) => by have hN := next_any t k At1 ct1 W hl hc hs h0; rw [hnx, e0] at hN; simp only [Task.val, Look.val, hh] at hN; exact hN)
  clear hnx e0 h0
  simp only [Task.val, Look.val, hh]
  go_enter Try.func3, Try.ntmps3
  go_wp2_with fail
  refine (HCK.out _ (Kn.Sl.below HS.out (by repeat (first | exact Below.refl _ _ | assumption | refine Below.alloc ?_ (by first | omega | (simp; done) | (simp; omega)) _ | refine Below.setCell ?_ (by first | omega | (simp; done) | (simp; omega)) _ | refine Below.drew ?_ | refine below_drewN ?_ _ | refine Below.next ?_ (by assumption))))).mono ?_
  rintro e w1 ⟨rfl, hb1⟩
  obtain ⟨hbc1, hbf1⟩ := bcell hb1
  have hz1 : w.heap.size + 1 + 1 ≤ w1.heap.size := by have := hb1.size; simp at this; omega
  go_wp2_with fail
  refine (HNX.out _ (Kn.Sl.below HS.out (by repeat (first | exact Below.refl _ _ | assumption | refine Below.alloc ?_ (by first | omega | (simp; done) | (simp; omega)) _ | refine Below.setCell ?_ (by first | omega | (simp; done) | (simp; omega)) _ | refine Below.drew ?_ | refine below_drewN ?_ _ | refine Below.next ?_ (by assumption))))).mono ?_
  rintro e w2 ⟨rfl, hb2⟩
  have hbc2 := fun b o (h : b < w.heap.size + 1 + 1) => (hb2.cell (p := ⟨b, o, none⟩) (by first | omega | (simp; done) | (simp; omega))).trans (hbc1 b o (by first | omega | (simp; done) | (simp; omega)))
  have hbf2 := fun b o (h : b < w.heap.size + 1 + 1) => (hb2.frozen (p := ⟨b, o, none⟩) (by first | omega | (simp; done) | (simp; omega))).trans (hbf1 b o (by first | omega | (simp; done) | (simp; omega)))
  have hz2 : w.heap.size + 1 + 1 ≤ w2.heap.size := Nat.le_trans hz1 hb2.size
  clear hbc1 hbf1
  have l0 : w.heap.size < w2.heap.size := by omega
  have l1 : w.heap.size + 1 < w2.heap.size := by omega
  simp only [Step.val]
  go_wp2_with (first
    | (go_at_call 8; refine (taskOver_any _ _).mono ?_; rintro e w' ⟨rfl, rfl⟩)
    | (go_at_call 9; refine (awake31_any _).mono ?_; rintro e w3 ⟨rfl, hb3⟩))
  all_goals
    go_ret
    exact ⟨rfl, (by repeat (first | exact Below.refl _ _ | assumption | refine Below.alloc ?_ (by first | omega | (simp; done) | (simp; omega)) _ | refine Below.setCell ?_ (by first | omega | (simp; done) | (simp; omega)) _ | refine Below.drew ?_ | refine below_drewN ?_ _ | refine Below.next ?_ (by assumption)))⟩
set_option maxRecDepth 100000 in
set_option maxHeartbeats 4000000 in
theorem ps_l2 (t : Task) (k : Look) (At1 : Option Addr) (ct1 : Nat) (w : World) (hl : t.starts.length ≤ ct1) (hc : ct1 ≤ maxLen) (hs : Kn.Sl (Kn.int .i64) w At1 t.starts) (h0 : 0 ≤ t.state) (hlen : ¬ 20 < t.starts.length) (e0 : t.err = 0) (hnx : nextF t k = ⟨3, k.proc.code⟩) (ho : overB t.state = false) (s0 : (t.state == 0) = false) (s0' : (t.state != 0) = true) (s3 : (t.state == 3) = false) (s3' : (t.state != 3) = true) (hh : k.has = true) (ha : k.proc.alive = false) :
    Calls Try.prog 3 #[t.val At1 ct1, k.val] w fun e w' => e = .returned (.bool true) ∧ Below w.heap.size w w' := by
  have HCK := Lib.hid (fun W (hs : Kn.Sl (Kn.int .i64) W At1 t.starts) => by have hN := taskCheck_any t At1 ct1 W hl hc hs; rw [e0] at hN; simp only [Task.val] at hN; exact hN)
  have HS := Lib.hid hs
  clear hs
  have HNX := Lib.hid (fun W (hs : Kn.Sl (Kn.int .i64) W At1 t.starts) => by have hN := next_any t k At1 ct1 W hl hc hs h0; rw [hnx, e0] at hN; simp only [Task.val, Look.val, hh, ha] at hN; exact hN)
  clear hnx e0 h0
  simp only [Task.val, Look.val, hh, ha]
  go_enter Try.func3, Try.ntmps3
  go_wp2_with fail
  refine (HCK.out _ (Kn.Sl.below HS.out (by repeat (first | exact Below.refl _ _ | assumption | refine Below.alloc ?_ (by first | omega | (simp; done) | (simp; omega)) _ | refine Below.setCell ?_ (by first | omega | (simp; done) | (simp; omega)) _ | refine Below.drew ?_ | refine below_drewN ?_ _ | refine Below.next ?_ (by assumption))))).mono ?_
  rintro e w1 ⟨rfl, hb1⟩
  obtain ⟨hbc1, hbf1⟩ := bcell hb1
  have hz1 : w.heap.size + 1 + 1 ≤ w1.heap.size := by have := hb1.size; simp at this; omega
  go_wp2_with fail
  refine (HNX.out _ (Kn.Sl.below HS.out (by repeat (first | exact Below.refl _ _ | assumption | refine Below.alloc ?_ (by first | omega | (simp; done) | (simp; omega)) _ | refine Below.setCell ?_ (by first | omega | (simp; done) | (simp; omega)) _ | refine Below.drew ?_ | refine below_drewN ?_ _ | refine Below.next ?_ (by assumption))))).mono ?_
  rintro e w2 ⟨rfl, hb2⟩
  have hbc2 := fun b o (h : b < w.heap.size + 1 + 1) => (hb2.cell (p := ⟨b, o, none⟩) (by first | omega | (simp; done) | (simp; omega))).trans (hbc1 b o (by first | omega | (simp; done) | (simp; omega)))
  have hbf2 := fun b o (h : b < w.heap.size + 1 + 1) => (hb2.frozen (p := ⟨b, o, none⟩) (by first | omega | (simp; done) | (simp; omega))).trans (hbf1 b o (by first | omega | (simp; done) | (simp; omega)))
  have hz2 : w.heap.size + 1 + 1 ≤ w2.heap.size := Nat.le_trans hz1 hb2.size
  clear hbc1 hbf1
  have l0 : w.heap.size < w2.heap.size := by omega
  have l1 : w.heap.size + 1 < w2.heap.size := by omega
  simp only [Step.val]
  go_wp2_with (first
    | (go_at_call 8; refine (taskOver_any _ _).mono ?_; rintro e w' ⟨rfl, rfl⟩)
    | (go_at_call 9; refine (awake31_any _).mono ?_; rintro e w3 ⟨rfl, hb3⟩))
  all_goals
    go_ret
    exact ⟨rfl, (by repeat (first | exact Below.refl _ _ | assumption | refine Below.alloc ?_ (by first | omega | (simp; done) | (simp; omega)) _ | refine Below.setCell ?_ (by first | omega | (simp; done) | (simp; omega)) _ | refine Below.drew ?_ | refine below_drewN ?_ _ | refine Below.next ?_ (by assumption)))⟩
set_option maxRecDepth 100000 in
set_option maxHeartbeats 4000000 in
theorem ps_l3 (t : Task) (k : Look) (At1 : Option Addr) (ct1 : Nat) (w : World) (hl : t.starts.length ≤ ct1) (hc : ct1 ≤ maxLen) (hs : Kn.Sl (Kn.int .i64) w At1 t.starts) (h0 : 0 ≤ t.state) (hlen : ¬ 20 < t.starts.length) (e0 : t.err = 0) (d : Int) (hnx : nextF t k = ⟨d, 0⟩) (d1 : (d == 1) = false) (d1' : (d != 1) = true) (d3 : (d == 3) = false) (d3' : (d != 3) = true) (hh : k.has = true) (ha : k.proc.alive = true) (ho : overB t.state = false) (s0 : (t.state == 0) = false) (s0' : (t.state != 0) = true) (s3 : (t.state == 3) = false) (s3' : (t.state != 3) = true) (hf : k.fenced = false) :
    Calls Try.prog 3 #[t.val At1 ct1, k.val] w fun e w' => e = .returned (.bool true) ∧ Below w.heap.size w w' := by
  have HCK := Lib.hid (fun W (hs : Kn.Sl (Kn.int .i64) W At1 t.starts) => by have hN := taskCheck_any t At1 ct1 W hl hc hs; rw [e0] at hN; simp only [Task.val] at hN; exact hN)
  have HS := Lib.hid hs
  clear hs
  have HNX := Lib.hid (fun W (hs : Kn.Sl (Kn.int .i64) W At1 t.starts) => by have hN := next_any t k At1 ct1 W hl hc hs h0; rw [hnx, e0] at hN; simp only [Task.val, Look.val, hh, ha, hf] at hN; exact hN)
  clear hnx e0 h0
  simp only [Task.val, Look.val, hh, ha, hf]
  go_enter Try.func3, Try.ntmps3
  go_wp2_with fail
  refine (HCK.out _ (Kn.Sl.below HS.out (by repeat (first | exact Below.refl _ _ | assumption | refine Below.alloc ?_ (by first | omega | (simp; done) | (simp; omega)) _ | refine Below.setCell ?_ (by first | omega | (simp; done) | (simp; omega)) _ | refine Below.drew ?_ | refine below_drewN ?_ _ | refine Below.next ?_ (by assumption))))).mono ?_
  rintro e w1 ⟨rfl, hb1⟩
  obtain ⟨hbc1, hbf1⟩ := bcell hb1
  have hz1 : w.heap.size + 1 + 1 ≤ w1.heap.size := by have := hb1.size; simp at this; omega
  go_wp2_with fail
  refine (HNX.out _ (Kn.Sl.below HS.out (by repeat (first | exact Below.refl _ _ | assumption | refine Below.alloc ?_ (by first | omega | (simp; done) | (simp; omega)) _ | refine Below.setCell ?_ (by first | omega | (simp; done) | (simp; omega)) _ | refine Below.drew ?_ | refine below_drewN ?_ _ | refine Below.next ?_ (by assumption))))).mono ?_
  rintro e w2 ⟨rfl, hb2⟩
  have hbc2 := fun b o (h : b < w.heap.size + 1 + 1) => (hb2.cell (p := ⟨b, o, none⟩) (by first | omega | (simp; done) | (simp; omega))).trans (hbc1 b o (by first | omega | (simp; done) | (simp; omega)))
  have hbf2 := fun b o (h : b < w.heap.size + 1 + 1) => (hb2.frozen (p := ⟨b, o, none⟩) (by first | omega | (simp; done) | (simp; omega))).trans (hbf1 b o (by first | omega | (simp; done) | (simp; omega)))
  have hz2 : w.heap.size + 1 + 1 ≤ w2.heap.size := Nat.le_trans hz1 hb2.size
  clear hbc1 hbf1
  have l0 : w.heap.size < w2.heap.size := by omega
  have l1 : w.heap.size + 1 < w2.heap.size := by omega
  simp only [Step.val]
  go_wp2_with (first
    | (go_at_call 8; refine (taskOver_any _ _).mono ?_; rintro e w' ⟨rfl, rfl⟩)
    | (go_at_call 9; refine (awake31_any _).mono ?_; rintro e w3 ⟨rfl, hb3⟩))
  all_goals
    go_ret
    exact ⟨rfl, (by repeat (first | exact Below.refl _ _ | assumption | refine Below.alloc ?_ (by first | omega | (simp; done) | (simp; omega)) _ | refine Below.setCell ?_ (by first | omega | (simp; done) | (simp; omega)) _ | refine Below.drew ?_ | refine below_drewN ?_ _ | refine Below.next ?_ (by assumption)))⟩
set_option maxRecDepth 100000 in
set_option maxHeartbeats 4000000 in
theorem ps_l4 (t : Task) (k : Look) (At1 : Option Addr) (ct1 : Nat) (w : World) (hl : t.starts.length ≤ ct1) (hc : ct1 ≤ maxLen) (hs : Kn.Sl (Kn.int .i64) w At1 t.starts) (h0 : 0 ≤ t.state) (hlen : ¬ 20 < t.starts.length) (e0 : t.err = 0) (d : Int) (hnx : nextF t k = ⟨d, 0⟩) (d1 : (d == 1) = false) (d1' : (d != 1) = true) (d3 : (d == 3) = false) (d3' : (d != 3) = true) (hh : k.has = true) (ha : k.proc.alive = true) (ho : overB t.state = false) (s0 : (t.state == 0) = false) (s0' : (t.state != 0) = true) (s3 : (t.state == 3) = false) (s3' : (t.state != 3) = true) (hf : k.fenced = true) (s5 : (t.state == 5) = true) (s5' : (t.state != 5) = false) :
    Calls Try.prog 3 #[t.val At1 ct1, k.val] w fun e w' => e = .returned (.bool true) ∧ Below w.heap.size w w' := by
  have HCK := Lib.hid (fun W (hs : Kn.Sl (Kn.int .i64) W At1 t.starts) => by have hN := taskCheck_any t At1 ct1 W hl hc hs; rw [e0] at hN; simp only [Task.val] at hN; exact hN)
  have HS := Lib.hid hs
  clear hs
  have HNX := Lib.hid (fun W (hs : Kn.Sl (Kn.int .i64) W At1 t.starts) => by have hN := next_any t k At1 ct1 W hl hc hs h0; rw [hnx, e0] at hN; simp only [Task.val, Look.val, hh, ha, hf] at hN; exact hN)
  clear hnx e0 h0
  simp only [Task.val, Look.val, hh, ha, hf]
  go_enter Try.func3, Try.ntmps3
  go_wp2_with fail
  refine (HCK.out _ (Kn.Sl.below HS.out (by repeat (first | exact Below.refl _ _ | assumption | refine Below.alloc ?_ (by first | omega | (simp; done) | (simp; omega)) _ | refine Below.setCell ?_ (by first | omega | (simp; done) | (simp; omega)) _ | refine Below.drew ?_ | refine below_drewN ?_ _ | refine Below.next ?_ (by assumption))))).mono ?_
  rintro e w1 ⟨rfl, hb1⟩
  obtain ⟨hbc1, hbf1⟩ := bcell hb1
  have hz1 : w.heap.size + 1 + 1 ≤ w1.heap.size := by have := hb1.size; simp at this; omega
  go_wp2_with fail
  refine (HNX.out _ (Kn.Sl.below HS.out (by repeat (first | exact Below.refl _ _ | assumption | refine Below.alloc ?_ (by first | omega | (simp; done) | (simp; omega)) _ | refine Below.setCell ?_ (by first | omega | (simp; done) | (simp; omega)) _ | refine Below.drew ?_ | refine below_drewN ?_ _ | refine Below.next ?_ (by assumption))))).mono ?_
  rintro e w2 ⟨rfl, hb2⟩
  have hbc2 := fun b o (h : b < w.heap.size + 1 + 1) => (hb2.cell (p := ⟨b, o, none⟩) (by first | omega | (simp; done) | (simp; omega))).trans (hbc1 b o (by first | omega | (simp; done) | (simp; omega)))
  have hbf2 := fun b o (h : b < w.heap.size + 1 + 1) => (hb2.frozen (p := ⟨b, o, none⟩) (by first | omega | (simp; done) | (simp; omega))).trans (hbf1 b o (by first | omega | (simp; done) | (simp; omega)))
  have hz2 : w.heap.size + 1 + 1 ≤ w2.heap.size := Nat.le_trans hz1 hb2.size
  clear hbc1 hbf1
  have l0 : w.heap.size < w2.heap.size := by omega
  have l1 : w.heap.size + 1 < w2.heap.size := by omega
  simp only [Step.val]
  go_wp2_with (first
    | (go_at_call 8; refine (taskOver_any _ _).mono ?_; rintro e w' ⟨rfl, rfl⟩)
    | (go_at_call 9; refine (awake31_any _).mono ?_; rintro e w3 ⟨rfl, hb3⟩))
  all_goals
    go_ret
    exact ⟨rfl, (by repeat (first | exact Below.refl _ _ | assumption | refine Below.alloc ?_ (by first | omega | (simp; done) | (simp; omega)) _ | refine Below.setCell ?_ (by first | omega | (simp; done) | (simp; omega)) _ | refine Below.drew ?_ | refine below_drewN ?_ _ | refine Below.next ?_ (by assumption)))⟩
set_option maxRecDepth 100000 in
set_option maxHeartbeats 4000000 in
theorem ps_l5 (t : Task) (k : Look) (At1 : Option Addr) (ct1 : Nat) (w : World) (hl : t.starts.length ≤ ct1) (hc : ct1 ≤ maxLen) (hs : Kn.Sl (Kn.int .i64) w At1 t.starts) (h0 : 0 ≤ t.state) (hlen : ¬ 20 < t.starts.length) (e0 : t.err = 0) (d : Int) (hnx : nextF t k = ⟨d, 0⟩) (d1 : (d == 1) = false) (d1' : (d != 1) = true) (d3 : (d == 3) = false) (d3' : (d != 3) = true) (hh : k.has = true) (ha : k.proc.alive = true) (ho : overB t.state = false) (s0 : (t.state == 0) = false) (s0' : (t.state != 0) = true) (s3 : (t.state == 3) = false) (s3' : (t.state != 3) = true) (hf : k.fenced = true) (s5 : (t.state == 5) = false) (s5' : (t.state != 5) = true) (d4 : (d == 4) = true) (d4' : (d != 4) = false) :
    Calls Try.prog 3 #[t.val At1 ct1, k.val] w fun e w' => e = .returned (.bool true) ∧ Below w.heap.size w w' := by
  have HCK := Lib.hid (fun W (hs : Kn.Sl (Kn.int .i64) W At1 t.starts) => by have hN := taskCheck_any t At1 ct1 W hl hc hs; rw [e0] at hN; simp only [Task.val] at hN; exact hN)
  have HS := Lib.hid hs
  clear hs
  have HNX := Lib.hid (fun W (hs : Kn.Sl (Kn.int .i64) W At1 t.starts) => by have hN := next_any t k At1 ct1 W hl hc hs h0; rw [hnx, e0] at hN; simp only [Task.val, Look.val, hh, ha, hf] at hN; exact hN)
  clear hnx e0 h0
  simp only [Task.val, Look.val, hh, ha, hf]
  go_enter Try.func3, Try.ntmps3
  go_wp2_with fail
  refine (HCK.out _ (Kn.Sl.below HS.out (by repeat (first | exact Below.refl _ _ | assumption | refine Below.alloc ?_ (by first | omega | (simp; done) | (simp; omega)) _ | refine Below.setCell ?_ (by first | omega | (simp; done) | (simp; omega)) _ | refine Below.drew ?_ | refine below_drewN ?_ _ | refine Below.next ?_ (by assumption))))).mono ?_
  rintro e w1 ⟨rfl, hb1⟩
  obtain ⟨hbc1, hbf1⟩ := bcell hb1
  have hz1 : w.heap.size + 1 + 1 ≤ w1.heap.size := by have := hb1.size; simp at this; omega
  go_wp2_with fail
  refine (HNX.out _ (Kn.Sl.below HS.out (by repeat (first | exact Below.refl _ _ | assumption | refine Below.alloc ?_ (by first | omega | (simp; done) | (simp; omega)) _ | refine Below.setCell ?_ (by first | omega | (simp; done) | (simp; omega)) _ | refine Below.drew ?_ | refine below_drewN ?_ _ | refine Below.next ?_ (by assumption))))).mono ?_
  rintro e w2 ⟨rfl, hb2⟩
  have hbc2 := fun b o (h : b < w.heap.size + 1 + 1) => (hb2.cell (p := ⟨b, o, none⟩) (by first | omega | (simp; done) | (simp; omega))).trans (hbc1 b o (by first | omega | (simp; done) | (simp; omega)))
  have hbf2 := fun b o (h : b < w.heap.size + 1 + 1) => (hb2.frozen (p := ⟨b, o, none⟩) (by first | omega | (simp; done) | (simp; omega))).trans (hbf1 b o (by first | omega | (simp; done) | (simp; omega)))
  have hz2 : w.heap.size + 1 + 1 ≤ w2.heap.size := Nat.le_trans hz1 hb2.size
  clear hbc1 hbf1
  have l0 : w.heap.size < w2.heap.size := by omega
  have l1 : w.heap.size + 1 < w2.heap.size := by omega
  simp only [Step.val]
  go_wp2_with (first
    | (go_at_call 8; refine (taskOver_any _ _).mono ?_; rintro e w' ⟨rfl, rfl⟩)
    | (go_at_call 9; refine (awake31_any _).mono ?_; rintro e w3 ⟨rfl, hb3⟩))
  all_goals
    go_ret
    exact ⟨rfl, (by repeat (first | exact Below.refl _ _ | assumption | refine Below.alloc ?_ (by first | omega | (simp; done) | (simp; omega)) _ | refine Below.setCell ?_ (by first | omega | (simp; done) | (simp; omega)) _ | refine Below.drew ?_ | refine below_drewN ?_ _ | refine Below.next ?_ (by assumption)))⟩
theorem planStarts_ok (t : Task) (k : Look) (At1 : Option Addr) (ct1 : Nat) (w : World) (hl : t.starts.length ≤ ct1) (hc : ct1 ≤ maxLen) (hs : Kn.Sl (Kn.int .i64) w At1 t.starts) (h0 : 0 ≤ t.state) (hlen : ¬ 20 < t.starts.length) (hok : t.ok = true) :
    Calls Try.prog 3 #[t.val At1 ct1, k.val] w fun e w' => e = .returned (.bool true) ∧ Below w.heap.size w w' := by
  have h7 := ok_state hok
  have e0 := err_ok hok
  by_cases hov : 5 < t.state
  · exact ps_over t k At1 ct1 w hl hc hs h0 hlen e0 (next_over hov) (over_yes (by omega))
  · have ho : overB t.state = false := by unfold overB; rw [(bq_no (show t.state ≠ 6 by omega)).1, (bq_no (show t.state ≠ 7 by omega)).1]; rfl
    by_cases hw : t.state = 0 ∨ t.state = 3
    · have hns := next_wait (k := k) hok hw
      rcases start_cases t k with hsc | ⟨hsc, hex, hot⟩
      · have hnx := hns.trans hsc
        rcases hw with hw | hw
        · obtain ⟨s0, s0'⟩ := bq_yes hw
          cases hh : k.has
          · exact ps_w0na t k At1 ct1 w hl hc hs h0 hlen e0 hnx ho s0 s0' hh
          · cases ha : k.proc.alive
            · exact ps_w0nb t k At1 ct1 w hl hc hs h0 hlen e0 hnx ho s0 s0' hh ha
            · exact ps_w0nc t k At1 ct1 w hl hc hs h0 hlen e0 hnx ho s0 s0' hh ha
        · obtain ⟨s0, s0'⟩ := bq_no (show t.state ≠ 0 by omega)
          obtain ⟨s3, s3'⟩ := bq_yes hw
          cases hh : k.has
          · exact ps_w3na t k At1 ct1 w hl hc hs h0 hlen e0 hnx ho s0 s0' s3 s3' hh
          · cases ha : k.proc.alive
            · exact ps_w3nb t k At1 ct1 w hl hc hs h0 hlen e0 hnx ho s0 s0' s3 s3' hh ha
            · exact ps_w3nc t k At1 ct1 w hl hc hs h0 hlen e0 hnx ho s0 s0' s3 s3' hh ha
      · have hnx := hns.trans hsc
        rcases hw with hw | hw
        · obtain ⟨s0, s0'⟩ := bq_yes hw
          cases hh : k.has
          · exact ps_w0sa t k At1 ct1 w hl hc hs h0 hlen e0 hnx hex hot ho s0 s0' hh
          · cases ha : k.proc.alive
            · exact ps_w0sb t k At1 ct1 w hl hc hs h0 hlen e0 hnx hex hot ho s0 s0' hh ha
            · exact ps_w0sc t k At1 ct1 w hl hc hs h0 hlen e0 hnx hex hot ho s0 s0' hh ha
        · obtain ⟨s0, s0'⟩ := bq_no (show t.state ≠ 0 by omega)
          obtain ⟨s3, s3'⟩ := bq_yes hw
          cases hh : k.has
          · exact ps_w3sa t k At1 ct1 w hl hc hs h0 hlen e0 hnx hex hot ho s0 s0' s3 s3' hh
          · cases ha : k.proc.alive
            · exact ps_w3sb t k At1 ct1 w hl hc hs h0 hlen e0 hnx hex hot ho s0 s0' s3 s3' hh ha
            · exact ps_w3sc t k At1 ct1 w hl hc hs h0 hlen e0 hnx hex hot ho s0 s0' s3 s3' hh ha
    · have hnl := next_live (k := k) hok h0 (by omega) (by omega) (by omega)
      obtain ⟨s0, s0'⟩ := bq_no (show t.state ≠ 0 by omega)
      obtain ⟨s3, s3'⟩ := bq_no (show t.state ≠ 3 by omega)
      cases hh : k.has
      · exact ps_l1 t k At1 ct1 w hl hc hs h0 hlen e0 (by rw [hnl]; simp [withF, hh]) ho s0 s0' s3 s3' hh
      · cases ha : k.proc.alive
        · exact ps_l2 t k At1 ct1 w hl hc hs h0 hlen e0 (by rw [hnl]; simp [withF, hh, ha]) ho s0 s0' s3 s3' hh ha
        · have hnx : nextF t k = ⟨liveF t.state t k, 0⟩ := by rw [hnl]; simp [withF, hh, ha]
          have hlv := live_vals t.state t k
          obtain ⟨d1, d1'⟩ := bq_no hlv.1.1
          obtain ⟨d3, d3'⟩ := bq_no hlv.1.2
          cases hf : k.fenced
          · exact ps_l3 t k At1 ct1 w hl hc hs h0 hlen e0 _ hnx d1 d1' d3 d3' hh ha ho s0 s0' s3 s3' hf
          · by_cases h5 : t.state = 5
            · obtain ⟨s5, s5'⟩ := bq_yes h5
              exact ps_l4 t k At1 ct1 w hl hc hs h0 hlen e0 _ hnx d1 d1' d3 d3' hh ha ho s0 s0' s3 s3' hf s5 s5'
            · obtain ⟨s5, s5'⟩ := bq_no h5
              obtain ⟨d4, d4'⟩ := bq_yes (hlv.2 hf h5 (by omega))
              exact ps_l5 t k At1 ct1 w hl hc hs h0 hlen e0 _ hnx d1 d1' d3 d3' hh ha ho s0 s0' s3 s3' hf s5 s5' d4 d4'
end Go.Proofs.Ytgjodcmpkppdlaa
