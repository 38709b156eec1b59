/- PortsOrder. -/
import Derived.Test.YtafnhoccaddagaaData
import Derived.Test.YtafnhoccaddagaaRows
import Derived.WalkKit
import Derived.ProofKit
import Derived.Lib.Hide
import Derived.Deep.RegionHeld3
import Derived.Deep.DeepCutAuto
import Derived.Deep.LoopGhost
import Derived.BigQuiet
import Derived.WalkLawsBesides
import Derived.WalkSpells
import Derived.Test.YtafnhoccaddagaaPortsArgs
namespace Go.Proofs.Ytafnhoccaddagaa
open Go.ChangeShapes Go.WideShapes Go.ChangeAt Go.RowKit
set_option linter.unusedVariables false
set_option linter.unusedSimpArgs false
set_option maxRecDepth 20000 in
set_option maxHeartbeats 4000000 in
theorem order_core {w : World} {n m l : Nat} {x y z : List Int} {A B C : Option Addr} {c d e : Nat} (hq1 : min (n : Int) 20 = x.length) (hq2 : min (m : Int) 20 = y.length) (hq3 : min (l : Int) 20 = z.length)
    (gx : Arg 20 w x A c) (gy : Arg 20 w y B d) (gz : Arg 20 w z C e) :
    Calls Try.prog 7 #[.slice A n c, .slice B m d, .slice C l e] w fun e w' => e = .returned (.bool true) ∧ Below w.heap.size w w' := by
  have hc := gx.cap
  have hd := gy.cap
  have he := gz.cap
  unfold maxLen at hc hd he
  have j1 : (x.length : Int) ≤ c := by omega
  have j2 : (y.length : Int) ≤ d := by omega
  have j3 : (z.length : Int) ≤ e := by omega
  go_enter Try.func7, Try.ntmps7
  go_wp2_with fail
  go_quiet (fail)
  go_wp2_with fail
  have HX := Lib.hid gx
  have HY := Lib.hid gy
  have HZ := Lib.hid gz
  have hlx := gx.len
  clear gx gy gz hc hd he
  obtain ⟨i0, hi, hz0, hz1, hz2⟩ := info_parts info_int
  go_loopw [7, 8] (fun v i wr => ∃ (k : Nat) (j : Int), k ≤ x.length ∧ j = (k : Int) - 1 ∧ i = .int .i64 j ∧ wr.ownsRow w.heap.size 3 1 v (x.length - k) ((x.drop k).reverse.map (Value.int .i64)) ∧ Below w.heap.size w wr) (fun _ i _ => (valInt i + 1).toNat)
  case atStart => exact ⟨x.length, _, Nat.le_refl _, rfl, rfl, by rw [List.drop_length, Nat.sub_self]; exact World.ownsRow_nil _ _ _ _, (by repeat (first | with_reducible exact Below.refl _ _ | with_reducible assumption | with_reducible refine Below.alloc ?_ (by first | omega | (simp; done) | (simp; omega)) _ | with_reducible refine Below.setCell ?_ (by first | omega | (simp; done) | (simp; omega)) _ | with_reducible refine Below.drew ?_ | with_reducible refine below_drewN ?_ _ | with_reducible refine Below.next ?_ (by with_reducible assumption)))⟩
  case round =>
    obtain ⟨k, j, hk, hj, rfl, hown, hb⟩ := hrel
    have hbz := hb.size
    by_cases hk0 : k = 0
    · subst hk0
      obtain rfl : j = -1 := by omega
      clear hj
      obtain ⟨r, hr⟩ : ∃ r, r = x.reverse := ⟨_, rfl⟩
      rw [List.drop_zero, ← hr] at hown
      obtain ⟨A', c', e', hi'⟩ := IntsPost.mk (w := w) (x := r) hown (by rw [hr]; simp) (Nat.le_refl _) hb
      have gk : Arg 20 wr r A' c' := ⟨hi'.1, hi'.sl, by rw [hr]; simpa using hlx, fun q hq => HX.out.wf q (by rw [hr] at hq; simpa using hq)⟩
      injection e' with e'
      subst e'
      have HR := Lib.hid hr
      have gx := HX.out
      have gy := HY.out
      have gz := HZ.out
      clear hr hown hi'
      go_wp2_with fail
      refine (union3A (gx.below (by repeat (first | with_reducible exact Below.refl _ _ | with_reducible assumption | with_reducible refine Below.alloc ?_ (by first | omega | (simp; done) | (simp; omega)) _ | with_reducible refine Below.setCell ?_ (by first | omega | (simp; done) | (simp; omega)) _ | with_reducible refine Below.drew ?_ | with_reducible refine below_drewN ?_ _ | with_reducible refine Below.next ?_ (by with_reducible assumption)))) (gy.below (by repeat (first | with_reducible exact Below.refl _ _ | with_reducible assumption | with_reducible refine Below.alloc ?_ (by first | omega | (simp; done) | (simp; omega)) _ | with_reducible refine Below.setCell ?_ (by first | omega | (simp; done) | (simp; omega)) _ | with_reducible refine Below.drew ?_ | with_reducible refine below_drewN ?_ _ | with_reducible refine Below.next ?_ (by with_reducible assumption)))) (gz.below (by repeat (first | with_reducible exact Below.refl _ _ | with_reducible assumption | with_reducible refine Below.alloc ?_ (by first | omega | (simp; done) | (simp; omega)) _ | with_reducible refine Below.setCell ?_ (by first | omega | (simp; done) | (simp; omega)) _ | with_reducible refine Below.drew ?_ | with_reducible refine below_drewN ?_ _ | with_reducible refine Below.next ?_ (by with_reducible assumption)))) (by decide) (by simp)).mono ?_
      rintro e w1 ⟨A1, c1, rfl, g1, b1⟩
      have z1 := b1.size
      (try simp at z1)
      go_wp2_with fail
      refine (union3A (gz.below (by repeat (first | with_reducible exact Below.refl _ _ | with_reducible assumption | with_reducible refine Below.alloc ?_ (by first | omega | (simp; done) | (simp; omega)) _ | with_reducible refine Below.setCell ?_ (by first | omega | (simp; done) | (simp; omega)) _ | with_reducible refine Below.drew ?_ | with_reducible refine below_drewN ?_ _ | with_reducible refine Below.next ?_ (by with_reducible assumption)))) (gk.below (by repeat (first | with_reducible exact Below.refl _ _ | with_reducible assumption | with_reducible refine Below.alloc ?_ (by first | omega | (simp; done) | (simp; omega)) _ | with_reducible refine Below.setCell ?_ (by first | omega | (simp; done) | (simp; omega)) _ | with_reducible refine Below.drew ?_ | with_reducible refine below_drewN ?_ _ | with_reducible refine Below.next ?_ (by with_reducible assumption)))) (gy.below (by repeat (first | with_reducible exact Below.refl _ _ | with_reducible assumption | with_reducible refine Below.alloc ?_ (by first | omega | (simp; done) | (simp; omega)) _ | with_reducible refine Below.setCell ?_ (by first | omega | (simp; done) | (simp; omega)) _ | with_reducible refine Below.drew ?_ | with_reducible refine below_drewN ?_ _ | with_reducible refine Below.next ?_ (by with_reducible assumption)))) (by decide) (by simp)).mono ?_
      rintro e w2 ⟨A2, c2, rfl, g2, b2⟩
      have z2 := b2.size
      (try simp at z2)
      go_wp2_with fail
      refine (equalA (g1.below (by repeat (first | with_reducible exact Below.refl _ _ | with_reducible assumption | with_reducible refine Below.alloc ?_ (by first | omega | (simp; done) | (simp; omega)) _ | with_reducible refine Below.setCell ?_ (by first | omega | (simp; done) | (simp; omega)) _ | with_reducible refine Below.drew ?_ | with_reducible refine below_drewN ?_ _ | with_reducible refine Below.next ?_ (by with_reducible assumption)))) (g2.below (by repeat (first | with_reducible exact Below.refl _ _ | with_reducible assumption | with_reducible refine Below.alloc ?_ (by first | omega | (simp; done) | (simp; omega)) _ | with_reducible refine Below.setCell ?_ (by first | omega | (simp; done) | (simp; omega)) _ | with_reducible refine Below.drew ?_ | with_reducible refine below_drewN ?_ _ | with_reducible refine Below.next ?_ (by with_reducible assumption)))) (by rw [HR.out]; exact law_o1 _ _ _)).mono ?_
      rintro e w3 ⟨rfl, b3⟩
      have z3 := b3.size
      (try simp at z3)
      go_wp2_with fail
      refine (union2A (gx.below (by repeat (first | with_reducible exact Below.refl _ _ | with_reducible assumption | with_reducible refine Below.alloc ?_ (by first | omega | (simp; done) | (simp; omega)) _ | with_reducible refine Below.setCell ?_ (by first | omega | (simp; done) | (simp; omega)) _ | with_reducible refine Below.drew ?_ | with_reducible refine below_drewN ?_ _ | with_reducible refine Below.next ?_ (by with_reducible assumption)))) (gy.below (by repeat (first | with_reducible exact Below.refl _ _ | with_reducible assumption | with_reducible refine Below.alloc ?_ (by first | omega | (simp; done) | (simp; omega)) _ | with_reducible refine Below.setCell ?_ (by first | omega | (simp; done) | (simp; omega)) _ | with_reducible refine Below.drew ?_ | with_reducible refine below_drewN ?_ _ | with_reducible refine Below.next ?_ (by with_reducible assumption)))) (by decide) (by simp)).mono ?_
      rintro e w4 ⟨A4, c4, rfl, g4, b4⟩
      have z4 := b4.size
      (try simp at z4)
      go_wp2_with fail
      refine (union2A (g4.below (by repeat (first | with_reducible exact Below.refl _ _ | with_reducible assumption | with_reducible refine Below.alloc ?_ (by first | omega | (simp; done) | (simp; omega)) _ | with_reducible refine Below.setCell ?_ (by first | omega | (simp; done) | (simp; omega)) _ | with_reducible refine Below.drew ?_ | with_reducible refine below_drewN ?_ _ | with_reducible refine Below.next ?_ (by with_reducible assumption)))) (gz.below (by repeat (first | with_reducible exact Below.refl _ _ | with_reducible assumption | with_reducible refine Below.alloc ?_ (by first | omega | (simp; done) | (simp; omega)) _ | with_reducible refine Below.setCell ?_ (by first | omega | (simp; done) | (simp; omega)) _ | with_reducible refine Below.drew ?_ | with_reducible refine below_drewN ?_ _ | with_reducible refine Below.next ?_ (by with_reducible assumption)))) (by decide) (by simp)).mono ?_
      rintro e w5 ⟨A5, c5, rfl, g5, b5⟩
      have z5 := b5.size
      (try simp at z5)
      go_wp2_with fail
      refine (equalA (g1.below (by repeat (first | with_reducible exact Below.refl _ _ | with_reducible assumption | with_reducible refine Below.alloc ?_ (by first | omega | (simp; done) | (simp; omega)) _ | with_reducible refine Below.setCell ?_ (by first | omega | (simp; done) | (simp; omega)) _ | with_reducible refine Below.drew ?_ | with_reducible refine below_drewN ?_ _ | with_reducible refine Below.next ?_ (by with_reducible assumption)))) (g5.below (by repeat (first | with_reducible exact Below.refl _ _ | with_reducible assumption | with_reducible refine Below.alloc ?_ (by first | omega | (simp; done) | (simp; omega)) _ | with_reducible refine Below.setCell ?_ (by first | omega | (simp; done) | (simp; omega)) _ | with_reducible refine Below.drew ?_ | with_reducible refine below_drewN ?_ _ | with_reducible refine Below.next ?_ (by with_reducible assumption)))) (law_o2 _ _ _)).mono ?_
      rintro e w6 ⟨rfl, b6⟩
      have z6 := b6.size
      (try simp at z6)
      go_wp2_with fail
      refine (meetA (gx.below (by repeat (first | with_reducible exact Below.refl _ _ | with_reducible assumption | with_reducible refine Below.alloc ?_ (by first | omega | (simp; done) | (simp; omega)) _ | with_reducible refine Below.setCell ?_ (by first | omega | (simp; done) | (simp; omega)) _ | with_reducible refine Below.drew ?_ | with_reducible refine below_drewN ?_ _ | with_reducible refine Below.next ?_ (by with_reducible assumption)))) (gy.below (by repeat (first | with_reducible exact Below.refl _ _ | with_reducible assumption | with_reducible refine Below.alloc ?_ (by first | omega | (simp; done) | (simp; omega)) _ | with_reducible refine Below.setCell ?_ (by first | omega | (simp; done) | (simp; omega)) _ | with_reducible refine Below.drew ?_ | with_reducible refine below_drewN ?_ _ | with_reducible refine Below.next ?_ (by with_reducible assumption)))) (by decide) (by decide)).mono ?_
      rintro e w7 ⟨A7, c7, rfl, g7, b7⟩
      have z7 := b7.size
      (try simp at z7)
      go_wp2_with fail
      refine (meetA (gy.below (by repeat (first | with_reducible exact Below.refl _ _ | with_reducible assumption | with_reducible refine Below.alloc ?_ (by first | omega | (simp; done) | (simp; omega)) _ | with_reducible refine Below.setCell ?_ (by first | omega | (simp; done) | (simp; omega)) _ | with_reducible refine Below.drew ?_ | with_reducible refine below_drewN ?_ _ | with_reducible refine Below.next ?_ (by with_reducible assumption)))) (gk.below (by repeat (first | with_reducible exact Below.refl _ _ | with_reducible assumption | with_reducible refine Below.alloc ?_ (by first | omega | (simp; done) | (simp; omega)) _ | with_reducible refine Below.setCell ?_ (by first | omega | (simp; done) | (simp; omega)) _ | with_reducible refine Below.drew ?_ | with_reducible refine below_drewN ?_ _ | with_reducible refine Below.next ?_ (by with_reducible assumption)))) (by decide) (by decide)).mono ?_
      rintro e w8 ⟨A8, c8, rfl, g8, b8⟩
      have z8 := b8.size
      (try simp at z8)
      go_wp2_with fail
      refine (equalA (g7.below (by repeat (first | with_reducible exact Below.refl _ _ | with_reducible assumption | with_reducible refine Below.alloc ?_ (by first | omega | (simp; done) | (simp; omega)) _ | with_reducible refine Below.setCell ?_ (by first | omega | (simp; done) | (simp; omega)) _ | with_reducible refine Below.drew ?_ | with_reducible refine below_drewN ?_ _ | with_reducible refine Below.next ?_ (by with_reducible assumption)))) (g8.below (by repeat (first | with_reducible exact Below.refl _ _ | with_reducible assumption | with_reducible refine Below.alloc ?_ (by first | omega | (simp; done) | (simp; omega)) _ | with_reducible refine Below.setCell ?_ (by first | omega | (simp; done) | (simp; omega)) _ | with_reducible refine Below.drew ?_ | with_reducible refine below_drewN ?_ _ | with_reducible refine Below.next ?_ (by with_reducible assumption)))) (by rw [HR.out]; exact law_o3 _ _)).mono ?_
      rintro e w9 ⟨rfl, b9⟩
      have z9 := b9.size
      (try simp at z9)
      go_wp2_with fail
      refine (meetA (gx.below (by repeat (first | with_reducible exact Below.refl _ _ | with_reducible assumption | with_reducible refine Below.alloc ?_ (by first | omega | (simp; done) | (simp; omega)) _ | with_reducible refine Below.setCell ?_ (by first | omega | (simp; done) | (simp; omega)) _ | with_reducible refine Below.drew ?_ | with_reducible refine below_drewN ?_ _ | with_reducible refine Below.next ?_ (by with_reducible assumption)))) (gx.below (by repeat (first | with_reducible exact Below.refl _ _ | with_reducible assumption | with_reducible refine Below.alloc ?_ (by first | omega | (simp; done) | (simp; omega)) _ | with_reducible refine Below.setCell ?_ (by first | omega | (simp; done) | (simp; omega)) _ | with_reducible refine Below.drew ?_ | with_reducible refine below_drewN ?_ _ | with_reducible refine Below.next ?_ (by with_reducible assumption)))) (by decide) (by decide)).mono ?_
      rintro e w10 ⟨A10, c10, rfl, g10, b10⟩
      have z10 := b10.size
      (try simp at z10)
      go_wp2_with fail
      refine (union1A (gx.below (by repeat (first | with_reducible exact Below.refl _ _ | with_reducible assumption | with_reducible refine Below.alloc ?_ (by first | omega | (simp; done) | (simp; omega)) _ | with_reducible refine Below.setCell ?_ (by first | omega | (simp; done) | (simp; omega)) _ | with_reducible refine Below.drew ?_ | with_reducible refine below_drewN ?_ _ | with_reducible refine Below.next ?_ (by with_reducible assumption)))) (by decide) (by simp)).mono ?_
      rintro e w11 ⟨A11, c11, rfl, g11, b11⟩
      have z11 := b11.size
      (try simp at z11)
      go_wp2_with fail
      refine (equalA (g10.below (by repeat (first | with_reducible exact Below.refl _ _ | with_reducible assumption | with_reducible refine Below.alloc ?_ (by first | omega | (simp; done) | (simp; omega)) _ | with_reducible refine Below.setCell ?_ (by first | omega | (simp; done) | (simp; omega)) _ | with_reducible refine Below.drew ?_ | with_reducible refine below_drewN ?_ _ | with_reducible refine Below.next ?_ (by with_reducible assumption)))) (g11.below (by repeat (first | with_reducible exact Below.refl _ _ | with_reducible assumption | with_reducible refine Below.alloc ?_ (by first | omega | (simp; done) | (simp; omega)) _ | with_reducible refine Below.setCell ?_ (by first | omega | (simp; done) | (simp; omega)) _ | with_reducible refine Below.drew ?_ | with_reducible refine below_drewN ?_ _ | with_reducible refine Below.next ?_ (by with_reducible assumption)))) (law_o4 _)).mono ?_
      rintro e w12 ⟨rfl, b12⟩
      have z12 := b12.size
      (try simp at z12)
      go_wp2_with fail
      refine (union2A (gx.below (by repeat (first | with_reducible exact Below.refl _ _ | with_reducible assumption | with_reducible refine Below.alloc ?_ (by first | omega | (simp; done) | (simp; omega)) _ | with_reducible refine Below.setCell ?_ (by first | omega | (simp; done) | (simp; omega)) _ | with_reducible refine Below.drew ?_ | with_reducible refine below_drewN ?_ _ | with_reducible refine Below.next ?_ (by with_reducible assumption)))) (gx.below (by repeat (first | with_reducible exact Below.refl _ _ | with_reducible assumption | with_reducible refine Below.alloc ?_ (by first | omega | (simp; done) | (simp; omega)) _ | with_reducible refine Below.setCell ?_ (by first | omega | (simp; done) | (simp; omega)) _ | with_reducible refine Below.drew ?_ | with_reducible refine below_drewN ?_ _ | with_reducible refine Below.next ?_ (by with_reducible assumption)))) (by decide) (by simp)).mono ?_
      rintro e w13 ⟨A13, c13, rfl, g13, b13⟩
      have z13 := b13.size
      (try simp at z13)
      go_wp2_with fail
      refine (union1A (gx.below (by repeat (first | with_reducible exact Below.refl _ _ | with_reducible assumption | with_reducible refine Below.alloc ?_ (by first | omega | (simp; done) | (simp; omega)) _ | with_reducible refine Below.setCell ?_ (by first | omega | (simp; done) | (simp; omega)) _ | with_reducible refine Below.drew ?_ | with_reducible refine below_drewN ?_ _ | with_reducible refine Below.next ?_ (by with_reducible assumption)))) (by decide) (by simp)).mono ?_
      rintro e w14 ⟨A14, c14, rfl, g14, b14⟩
      have z14 := b14.size
      (try simp at z14)
      go_wp2_with fail
      refine (equalA (g13.below (by repeat (first | with_reducible exact Below.refl _ _ | with_reducible assumption | with_reducible refine Below.alloc ?_ (by first | omega | (simp; done) | (simp; omega)) _ | with_reducible refine Below.setCell ?_ (by first | omega | (simp; done) | (simp; omega)) _ | with_reducible refine Below.drew ?_ | with_reducible refine below_drewN ?_ _ | with_reducible refine Below.next ?_ (by with_reducible assumption)))) (g14.below (by repeat (first | with_reducible exact Below.refl _ _ | with_reducible assumption | with_reducible refine Below.alloc ?_ (by first | omega | (simp; done) | (simp; omega)) _ | with_reducible refine Below.setCell ?_ (by first | omega | (simp; done) | (simp; omega)) _ | with_reducible refine Below.drew ?_ | with_reducible refine below_drewN ?_ _ | with_reducible refine Below.next ?_ (by with_reducible assumption)))) (law_o5 _)).mono ?_
      rintro e w15 ⟨rfl, b15⟩
      have z15 := b15.size
      (try simp at z15)
      go_wp2_with fail
      refine (meetA (gx.below (by repeat (first | with_reducible exact Below.refl _ _ | with_reducible assumption | with_reducible refine Below.alloc ?_ (by first | omega | (simp; done) | (simp; omega)) _ | with_reducible refine Below.setCell ?_ (by first | omega | (simp; done) | (simp; omega)) _ | with_reducible refine Below.drew ?_ | with_reducible refine below_drewN ?_ _ | with_reducible refine Below.next ?_ (by with_reducible assumption)))) (gy.below (by repeat (first | with_reducible exact Below.refl _ _ | with_reducible assumption | with_reducible refine Below.alloc ?_ (by first | omega | (simp; done) | (simp; omega)) _ | with_reducible refine Below.setCell ?_ (by first | omega | (simp; done) | (simp; omega)) _ | with_reducible refine Below.drew ?_ | with_reducible refine below_drewN ?_ _ | with_reducible refine Below.next ?_ (by with_reducible assumption)))) (by decide) (by decide)).mono ?_
      rintro e w16 ⟨A16, c16, rfl, g16, b16⟩
      have z16 := b16.size
      (try simp at z16)
      go_wp2_with fail
      refine (meetA (g16.below (by repeat (first | with_reducible exact Below.refl _ _ | with_reducible assumption | with_reducible refine Below.alloc ?_ (by first | omega | (simp; done) | (simp; omega)) _ | with_reducible refine Below.setCell ?_ (by first | omega | (simp; done) | (simp; omega)) _ | with_reducible refine Below.drew ?_ | with_reducible refine below_drewN ?_ _ | with_reducible refine Below.next ?_ (by with_reducible assumption)))) (gz.below (by repeat (first | with_reducible exact Below.refl _ _ | with_reducible assumption | with_reducible refine Below.alloc ?_ (by first | omega | (simp; done) | (simp; omega)) _ | with_reducible refine Below.setCell ?_ (by first | omega | (simp; done) | (simp; omega)) _ | with_reducible refine Below.drew ?_ | with_reducible refine below_drewN ?_ _ | with_reducible refine Below.next ?_ (by with_reducible assumption)))) (by decide) (by decide)).mono ?_
      rintro e w17 ⟨A17, c17, rfl, g17, b17⟩
      have z17 := b17.size
      (try simp at z17)
      go_wp2_with fail
      refine (meetA (gy.below (by repeat (first | with_reducible exact Below.refl _ _ | with_reducible assumption | with_reducible refine Below.alloc ?_ (by first | omega | (simp; done) | (simp; omega)) _ | with_reducible refine Below.setCell ?_ (by first | omega | (simp; done) | (simp; omega)) _ | with_reducible refine Below.drew ?_ | with_reducible refine below_drewN ?_ _ | with_reducible refine Below.next ?_ (by with_reducible assumption)))) (gz.below (by repeat (first | with_reducible exact Below.refl _ _ | with_reducible assumption | with_reducible refine Below.alloc ?_ (by first | omega | (simp; done) | (simp; omega)) _ | with_reducible refine Below.setCell ?_ (by first | omega | (simp; done) | (simp; omega)) _ | with_reducible refine Below.drew ?_ | with_reducible refine below_drewN ?_ _ | with_reducible refine Below.next ?_ (by with_reducible assumption)))) (by decide) (by decide)).mono ?_
      rintro e w18 ⟨A18, c18, rfl, g18, b18⟩
      have z18 := b18.size
      (try simp at z18)
      go_wp2_with fail
      refine (meetA (gx.below (by repeat (first | with_reducible exact Below.refl _ _ | with_reducible assumption | with_reducible refine Below.alloc ?_ (by first | omega | (simp; done) | (simp; omega)) _ | with_reducible refine Below.setCell ?_ (by first | omega | (simp; done) | (simp; omega)) _ | with_reducible refine Below.drew ?_ | with_reducible refine below_drewN ?_ _ | with_reducible refine Below.next ?_ (by with_reducible assumption)))) (g18.below (by repeat (first | with_reducible exact Below.refl _ _ | with_reducible assumption | with_reducible refine Below.alloc ?_ (by first | omega | (simp; done) | (simp; omega)) _ | with_reducible refine Below.setCell ?_ (by first | omega | (simp; done) | (simp; omega)) _ | with_reducible refine Below.drew ?_ | with_reducible refine below_drewN ?_ _ | with_reducible refine Below.next ?_ (by with_reducible assumption)))) (by decide) (by decide)).mono ?_
      rintro e w19 ⟨A19, c19, rfl, g19, b19⟩
      have z19 := b19.size
      (try simp at z19)
      go_wp2_with fail
      refine (equalA (g17.below (by repeat (first | with_reducible exact Below.refl _ _ | with_reducible assumption | with_reducible refine Below.alloc ?_ (by first | omega | (simp; done) | (simp; omega)) _ | with_reducible refine Below.setCell ?_ (by first | omega | (simp; done) | (simp; omega)) _ | with_reducible refine Below.drew ?_ | with_reducible refine below_drewN ?_ _ | with_reducible refine Below.next ?_ (by with_reducible assumption)))) (g19.below (by repeat (first | with_reducible exact Below.refl _ _ | with_reducible assumption | with_reducible refine Below.alloc ?_ (by first | omega | (simp; done) | (simp; omega)) _ | with_reducible refine Below.setCell ?_ (by first | omega | (simp; done) | (simp; omega)) _ | with_reducible refine Below.drew ?_ | with_reducible refine below_drewN ?_ _ | with_reducible refine Below.next ?_ (by with_reducible assumption)))) (law_o6 _ _ _)).mono ?_
      rintro e w20 ⟨rfl, b20⟩
      have z20 := b20.size
      (try simp at z20)
      go_wp2_with fail
      refine (awake_any _).mono ?_
      rintro e w21 ⟨rfl, b21⟩
      have z21 := b21.size
      (try simp at z21)
      go_wp2_with fail
      go_ret
      exact ⟨rfl, (by repeat (first | with_reducible exact Below.refl _ _ | with_reducible assumption | with_reducible refine Below.alloc ?_ (by first | omega | (simp; done) | (simp; omega)) _ | with_reducible refine Below.setCell ?_ (by first | omega | (simp; done) | (simp; omega)) _ | with_reducible refine Below.drew ?_ | with_reducible refine below_drewN ?_ _ | with_reducible refine Below.next ?_ (by with_reducible assumption)))⟩
    · obtain ⟨q, rfl⟩ : ∃ q, k = q + 1 := ⟨k - 1, by omega⟩
      obtain rfl : j = (q : Int) := by omega
      clear hj
      have hql : q < x.length := by omega
      obtain ⟨b0, off, rfl, hb0, hcell⟩ := HX.out.sl.ints (by omega)
      have g := (hb.cell (p := ⟨b0, off + q, none⟩) hb0).trans (hcell q hql)
      have l0 : (q : Int) < x.length := by omega
      have l4 : (0 : Int) ≤ q := by omega
      have hdr : (x.drop q).reverse.map (Value.int .i64) = (x.drop (q + 1)).reverse.map (Value.int .i64) ++ [Value.int .i64 (x.getD q 0)] := by rw [drop_at hql]; simp
      obtain ⟨p, hp⟩ : ∃ p, p = x.getD q 0 := ⟨_, rfl⟩
      rw [← hp] at g hdr
      have HD := Lib.hid hdr
      clear hcell hp hdr
      go_wp2_with (at_builtin; refine wpList_append_row _ rfl _ _ 22 rfl w.heap.size 3 i0 (.int .i64 0) 1 8 Try.underlying22 hi hz0 hz1 hz2 rfl (by decide) _ _ _ rfl (hown.alloc _) (some ⟨wr.heap.size, 0, none⟩) 1 1 [.int .i64 p] rfl (lit_row (cs := #[.int .i64 p]) rfl) rfl (by simp [Value.oneCell']) (by unfold maxLen; omega) (by omega) (by simp; omega) ?_; intro v' w' hown' hg' hl')
      go_roundw
      case rel => exact ⟨q, _, by omega, rfl, by go_num, by rw [HD.out]; rwa [show x.length - (q + 1) + 1 = x.length - q by omega] at hown', (hb.alloc hbz _).grown hg' (by simp; omega) (fun s hs => (hown.lt s hs).1)⟩
      case measure => simp [valInt]
theorem order_any {w : World} {a b f : List Int} {A B C : Option Addr} {c d e : Nat} (hc : a.length ≤ c ∧ c ≤ maxLen) (hd : b.length ≤ d ∧ d ≤ maxLen) (he : f.length ≤ e ∧ e ≤ maxLen) (hs : Kn.Sl (Kn.int .i64) w A a) (ht : Kn.Sl (Kn.int .i64) w B b) (hu : Kn.Sl (Kn.int .i64) w C f)
    (hw : ∀ x ∈ a, (Lit.int .i64 x).wf = true) (hw2 : ∀ x ∈ b, (Lit.int .i64 x).wf = true) (hw3 : ∀ x ∈ f, (Lit.int .i64 x).wf = true) :
    Calls Try.prog 7 #[.slice A a.length c, .slice B b.length d, .slice C f.length e] w fun e w' => e = .returned (.bool true) ∧ Below w.heap.size w w' :=
  order_core (min_take20 a) (min_take20 b) (min_take20 f) (take_arg hc hs hw) (take_arg hd ht hw2) (take_arg he hu hw3)
end Go.Proofs.Ytafnhoccaddagaa
