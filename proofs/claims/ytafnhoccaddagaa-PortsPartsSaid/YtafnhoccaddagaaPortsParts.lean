/- PortsParts. -/
import Derived.Test.YtafnhoccaddagaaData
import Derived.Test.YtafnhoccaddagaaRows
import Derived.WalkKit
import Derived.ProofKit
import Derived.Lib.Hide
import Derived.Deep.RegionHeld3
import Derived.Deep.DeepCutAuto
import Derived.Deep.LoopGhost
import Derived.BigQuiet
import Derived.WalkLawsBesides
import Derived.WalkSpells
import Derived.Test.YtafnhoccaddagaaPortsArgs
namespace Go.Proofs.Ytafnhoccaddagaa
open Go.ChangeShapes Go.WideShapes Go.ChangeAt Go.RowKit
set_option linter.unusedVariables false
set_option linter.unusedSimpArgs false
set_option maxRecDepth 20000 in
set_option maxHeartbeats 4000000 in
theorem parts_core {w : World} {n m l : Nat} {x y z : List Int} {A B C : Option Addr} {c d e : Nat} (hq1 : min (n : Int) 20 = x.length) (hq2 : min (m : Int) 20 = y.length) (hq3 : min (l : Int) 20 = z.length)
    (gx : Arg 20 w x A c) (gy : Arg 20 w y B d) (gz : Arg 20 w z C e) :
    Calls Try.prog 8 #[.slice A n c, .slice B m d, .slice C l e] w fun e w' => e = .returned (.bool true) ∧ Below w.heap.size w w' := by
  have hc := gx.cap
  have hd := gy.cap
  have he := gz.cap
  unfold maxLen at hc hd he
  have j1 : (x.length : Int) ≤ c := by omega
  have j2 : (y.length : Int) ≤ d := by omega
  have j3 : (z.length : Int) ≤ e := by omega
  go_enter Try.func8, Try.ntmps8
  go_wp2_with fail
  go_quiet (fail)
  go_wp2_with fail
  refine (union2A (gy.below (by repeat (first | with_reducible exact Below.refl _ _ | with_reducible assumption | with_reducible refine Below.alloc ?_ (by first | omega | (simp; done) | (simp; omega)) _ | with_reducible refine Below.setCell ?_ (by first | omega | (simp; done) | (simp; omega)) _ | with_reducible refine Below.drew ?_ | with_reducible refine below_drewN ?_ _ | with_reducible refine Below.next ?_ (by with_reducible assumption)))) (gz.below (by repeat (first | with_reducible exact Below.refl _ _ | with_reducible assumption | with_reducible refine Below.alloc ?_ (by first | omega | (simp; done) | (simp; omega)) _ | with_reducible refine Below.setCell ?_ (by first | omega | (simp; done) | (simp; omega)) _ | with_reducible refine Below.drew ?_ | with_reducible refine below_drewN ?_ _ | with_reducible refine Below.next ?_ (by with_reducible assumption)))) (by decide) (by simp)).mono ?_
  rintro e w1 ⟨A1, c1, rfl, g1, b1⟩
  have z1 := b1.size
  (try simp at z1)
  go_wp2_with fail
  refine (meetA (gx.below (by repeat (first | with_reducible exact Below.refl _ _ | with_reducible assumption | with_reducible refine Below.alloc ?_ (by first | omega | (simp; done) | (simp; omega)) _ | with_reducible refine Below.setCell ?_ (by first | omega | (simp; done) | (simp; omega)) _ | with_reducible refine Below.drew ?_ | with_reducible refine below_drewN ?_ _ | with_reducible refine Below.next ?_ (by with_reducible assumption)))) (g1.below (by repeat (first | with_reducible exact Below.refl _ _ | with_reducible assumption | with_reducible refine Below.alloc ?_ (by first | omega | (simp; done) | (simp; omega)) _ | with_reducible refine Below.setCell ?_ (by first | omega | (simp; done) | (simp; omega)) _ | with_reducible refine Below.drew ?_ | with_reducible refine below_drewN ?_ _ | with_reducible refine Below.next ?_ (by with_reducible assumption)))) (by decide) (by decide)).mono ?_
  rintro e w2 ⟨A2, c2, rfl, g2, b2⟩
  have z2 := b2.size
  (try simp at z2)
  go_wp2_with fail
  refine (meetA (gx.below (by repeat (first | with_reducible exact Below.refl _ _ | with_reducible assumption | with_reducible refine Below.alloc ?_ (by first | omega | (simp; done) | (simp; omega)) _ | with_reducible refine Below.setCell ?_ (by first | omega | (simp; done) | (simp; omega)) _ | with_reducible refine Below.drew ?_ | with_reducible refine below_drewN ?_ _ | with_reducible refine Below.next ?_ (by with_reducible assumption)))) (gy.below (by repeat (first | with_reducible exact Below.refl _ _ | with_reducible assumption | with_reducible refine Below.alloc ?_ (by first | omega | (simp; done) | (simp; omega)) _ | with_reducible refine Below.setCell ?_ (by first | omega | (simp; done) | (simp; omega)) _ | with_reducible refine Below.drew ?_ | with_reducible refine below_drewN ?_ _ | with_reducible refine Below.next ?_ (by with_reducible assumption)))) (by decide) (by decide)).mono ?_
  rintro e w3 ⟨A3, c3, rfl, g3, b3⟩
  have z3 := b3.size
  (try simp at z3)
  go_wp2_with fail
  refine (meetA (gx.below (by repeat (first | with_reducible exact Below.refl _ _ | with_reducible assumption | with_reducible refine Below.alloc ?_ (by first | omega | (simp; done) | (simp; omega)) _ | with_reducible refine Below.setCell ?_ (by first | omega | (simp; done) | (simp; omega)) _ | with_reducible refine Below.drew ?_ | with_reducible refine below_drewN ?_ _ | with_reducible refine Below.next ?_ (by with_reducible assumption)))) (gz.below (by repeat (first | with_reducible exact Below.refl _ _ | with_reducible assumption | with_reducible refine Below.alloc ?_ (by first | omega | (simp; done) | (simp; omega)) _ | with_reducible refine Below.setCell ?_ (by first | omega | (simp; done) | (simp; omega)) _ | with_reducible refine Below.drew ?_ | with_reducible refine below_drewN ?_ _ | with_reducible refine Below.next ?_ (by with_reducible assumption)))) (by decide) (by decide)).mono ?_
  rintro e w4 ⟨A4, c4, rfl, g4, b4⟩
  have z4 := b4.size
  (try simp at z4)
  go_wp2_with fail
  refine (union2A (g3.below (by repeat (first | with_reducible exact Below.refl _ _ | with_reducible assumption | with_reducible refine Below.alloc ?_ (by first | omega | (simp; done) | (simp; omega)) _ | with_reducible refine Below.setCell ?_ (by first | omega | (simp; done) | (simp; omega)) _ | with_reducible refine Below.drew ?_ | with_reducible refine below_drewN ?_ _ | with_reducible refine Below.next ?_ (by with_reducible assumption)))) (g4.below (by repeat (first | with_reducible exact Below.refl _ _ | with_reducible assumption | with_reducible refine Below.alloc ?_ (by first | omega | (simp; done) | (simp; omega)) _ | with_reducible refine Below.setCell ?_ (by first | omega | (simp; done) | (simp; omega)) _ | with_reducible refine Below.drew ?_ | with_reducible refine below_drewN ?_ _ | with_reducible refine Below.next ?_ (by with_reducible assumption)))) (by decide) (by simp)).mono ?_
  rintro e w5 ⟨A5, c5, rfl, g5, b5⟩
  have z5 := b5.size
  (try simp at z5)
  go_wp2_with fail
  refine (equalA (g2.below (by repeat (first | with_reducible exact Below.refl _ _ | with_reducible assumption | with_reducible refine Below.alloc ?_ (by first | omega | (simp; done) | (simp; omega)) _ | with_reducible refine Below.setCell ?_ (by first | omega | (simp; done) | (simp; omega)) _ | with_reducible refine Below.drew ?_ | with_reducible refine below_drewN ?_ _ | with_reducible refine Below.next ?_ (by with_reducible assumption)))) (g5.below (by repeat (first | with_reducible exact Below.refl _ _ | with_reducible assumption | with_reducible refine Below.alloc ?_ (by first | omega | (simp; done) | (simp; omega)) _ | with_reducible refine Below.setCell ?_ (by first | omega | (simp; done) | (simp; omega)) _ | with_reducible refine Below.drew ?_ | with_reducible refine below_drewN ?_ _ | with_reducible refine Below.next ?_ (by with_reducible assumption)))) (law_p1 _ _ _)).mono ?_
  rintro e w6 ⟨rfl, b6⟩
  have z6 := b6.size
  (try simp at z6)
  go_wp2_with fail
  refine (meetA (gy.below (by repeat (first | with_reducible exact Below.refl _ _ | with_reducible assumption | with_reducible refine Below.alloc ?_ (by first | omega | (simp; done) | (simp; omega)) _ | with_reducible refine Below.setCell ?_ (by first | omega | (simp; done) | (simp; omega)) _ | with_reducible refine Below.drew ?_ | with_reducible refine below_drewN ?_ _ | with_reducible refine Below.next ?_ (by with_reducible assumption)))) (gz.below (by repeat (first | with_reducible exact Below.refl _ _ | with_reducible assumption | with_reducible refine Below.alloc ?_ (by first | omega | (simp; done) | (simp; omega)) _ | with_reducible refine Below.setCell ?_ (by first | omega | (simp; done) | (simp; omega)) _ | with_reducible refine Below.drew ?_ | with_reducible refine below_drewN ?_ _ | with_reducible refine Below.next ?_ (by with_reducible assumption)))) (by decide) (by decide)).mono ?_
  rintro e w7 ⟨A7, c7, rfl, g7, b7⟩
  have z7 := b7.size
  (try simp at z7)
  go_wp2_with fail
  refine (union2A (gx.below (by repeat (first | with_reducible exact Below.refl _ _ | with_reducible assumption | with_reducible refine Below.alloc ?_ (by first | omega | (simp; done) | (simp; omega)) _ | with_reducible refine Below.setCell ?_ (by first | omega | (simp; done) | (simp; omega)) _ | with_reducible refine Below.drew ?_ | with_reducible refine below_drewN ?_ _ | with_reducible refine Below.next ?_ (by with_reducible assumption)))) (g7.below (by repeat (first | with_reducible exact Below.refl _ _ | with_reducible assumption | with_reducible refine Below.alloc ?_ (by first | omega | (simp; done) | (simp; omega)) _ | with_reducible refine Below.setCell ?_ (by first | omega | (simp; done) | (simp; omega)) _ | with_reducible refine Below.drew ?_ | with_reducible refine below_drewN ?_ _ | with_reducible refine Below.next ?_ (by with_reducible assumption)))) (by decide) (by simp)).mono ?_
  rintro e w8 ⟨A8, c8, rfl, g8, b8⟩
  have z8 := b8.size
  (try simp at z8)
  go_wp2_with fail
  refine (union2A (gx.below (by repeat (first | with_reducible exact Below.refl _ _ | with_reducible assumption | with_reducible refine Below.alloc ?_ (by first | omega | (simp; done) | (simp; omega)) _ | with_reducible refine Below.setCell ?_ (by first | omega | (simp; done) | (simp; omega)) _ | with_reducible refine Below.drew ?_ | with_reducible refine below_drewN ?_ _ | with_reducible refine Below.next ?_ (by with_reducible assumption)))) (gy.below (by repeat (first | with_reducible exact Below.refl _ _ | with_reducible assumption | with_reducible refine Below.alloc ?_ (by first | omega | (simp; done) | (simp; omega)) _ | with_reducible refine Below.setCell ?_ (by first | omega | (simp; done) | (simp; omega)) _ | with_reducible refine Below.drew ?_ | with_reducible refine below_drewN ?_ _ | with_reducible refine Below.next ?_ (by with_reducible assumption)))) (by decide) (by simp)).mono ?_
  rintro e w9 ⟨A9, c9, rfl, g9, b9⟩
  have z9 := b9.size
  (try simp at z9)
  go_wp2_with fail
  refine (union2A (gx.below (by repeat (first | with_reducible exact Below.refl _ _ | with_reducible assumption | with_reducible refine Below.alloc ?_ (by first | omega | (simp; done) | (simp; omega)) _ | with_reducible refine Below.setCell ?_ (by first | omega | (simp; done) | (simp; omega)) _ | with_reducible refine Below.drew ?_ | with_reducible refine below_drewN ?_ _ | with_reducible refine Below.next ?_ (by with_reducible assumption)))) (gz.below (by repeat (first | with_reducible exact Below.refl _ _ | with_reducible assumption | with_reducible refine Below.alloc ?_ (by first | omega | (simp; done) | (simp; omega)) _ | with_reducible refine Below.setCell ?_ (by first | omega | (simp; done) | (simp; omega)) _ | with_reducible refine Below.drew ?_ | with_reducible refine below_drewN ?_ _ | with_reducible refine Below.next ?_ (by with_reducible assumption)))) (by decide) (by simp)).mono ?_
  rintro e w10 ⟨A10, c10, rfl, g10, b10⟩
  have z10 := b10.size
  (try simp at z10)
  go_wp2_with fail
  refine (meetA (g9.below (by repeat (first | with_reducible exact Below.refl _ _ | with_reducible assumption | with_reducible refine Below.alloc ?_ (by first | omega | (simp; done) | (simp; omega)) _ | with_reducible refine Below.setCell ?_ (by first | omega | (simp; done) | (simp; omega)) _ | with_reducible refine Below.drew ?_ | with_reducible refine below_drewN ?_ _ | with_reducible refine Below.next ?_ (by with_reducible assumption)))) (g10.below (by repeat (first | with_reducible exact Below.refl _ _ | with_reducible assumption | with_reducible refine Below.alloc ?_ (by first | omega | (simp; done) | (simp; omega)) _ | with_reducible refine Below.setCell ?_ (by first | omega | (simp; done) | (simp; omega)) _ | with_reducible refine Below.drew ?_ | with_reducible refine below_drewN ?_ _ | with_reducible refine Below.next ?_ (by with_reducible assumption)))) (by decide) (by decide)).mono ?_
  rintro e w11 ⟨A11, c11, rfl, g11, b11⟩
  have z11 := b11.size
  (try simp at z11)
  go_wp2_with fail
  refine (equalA (g8.below (by repeat (first | with_reducible exact Below.refl _ _ | with_reducible assumption | with_reducible refine Below.alloc ?_ (by first | omega | (simp; done) | (simp; omega)) _ | with_reducible refine Below.setCell ?_ (by first | omega | (simp; done) | (simp; omega)) _ | with_reducible refine Below.drew ?_ | with_reducible refine below_drewN ?_ _ | with_reducible refine Below.next ?_ (by with_reducible assumption)))) (g11.below (by repeat (first | with_reducible exact Below.refl _ _ | with_reducible assumption | with_reducible refine Below.alloc ?_ (by first | omega | (simp; done) | (simp; omega)) _ | with_reducible refine Below.setCell ?_ (by first | omega | (simp; done) | (simp; omega)) _ | with_reducible refine Below.drew ?_ | with_reducible refine below_drewN ?_ _ | with_reducible refine Below.next ?_ (by with_reducible assumption)))) (law_p2 _ _ _)).mono ?_
  rintro e w12 ⟨rfl, b12⟩
  have z12 := b12.size
  (try simp at z12)
  go_wp2_with fail
  refine (meetA (gx.below (by repeat (first | with_reducible exact Below.refl _ _ | with_reducible assumption | with_reducible refine Below.alloc ?_ (by first | omega | (simp; done) | (simp; omega)) _ | with_reducible refine Below.setCell ?_ (by first | omega | (simp; done) | (simp; omega)) _ | with_reducible refine Below.drew ?_ | with_reducible refine below_drewN ?_ _ | with_reducible refine Below.next ?_ (by with_reducible assumption)))) (gy.below (by repeat (first | with_reducible exact Below.refl _ _ | with_reducible assumption | with_reducible refine Below.alloc ?_ (by first | omega | (simp; done) | (simp; omega)) _ | with_reducible refine Below.setCell ?_ (by first | omega | (simp; done) | (simp; omega)) _ | with_reducible refine Below.drew ?_ | with_reducible refine below_drewN ?_ _ | with_reducible refine Below.next ?_ (by with_reducible assumption)))) (by decide) (by decide)).mono ?_
  rintro e w13 ⟨A13, c13, rfl, g13, b13⟩
  have z13 := b13.size
  (try simp at z13)
  go_wp2_with fail
  refine (union2A (gx.below (by repeat (first | with_reducible exact Below.refl _ _ | with_reducible assumption | with_reducible refine Below.alloc ?_ (by first | omega | (simp; done) | (simp; omega)) _ | with_reducible refine Below.setCell ?_ (by first | omega | (simp; done) | (simp; omega)) _ | with_reducible refine Below.drew ?_ | with_reducible refine below_drewN ?_ _ | with_reducible refine Below.next ?_ (by with_reducible assumption)))) (g13.below (by repeat (first | with_reducible exact Below.refl _ _ | with_reducible assumption | with_reducible refine Below.alloc ?_ (by first | omega | (simp; done) | (simp; omega)) _ | with_reducible refine Below.setCell ?_ (by first | omega | (simp; done) | (simp; omega)) _ | with_reducible refine Below.drew ?_ | with_reducible refine below_drewN ?_ _ | with_reducible refine Below.next ?_ (by with_reducible assumption)))) (by decide) (by simp)).mono ?_
  rintro e w14 ⟨A14, c14, rfl, g14, b14⟩
  have z14 := b14.size
  (try simp at z14)
  go_wp2_with fail
  refine (union1A (gx.below (by repeat (first | with_reducible exact Below.refl _ _ | with_reducible assumption | with_reducible refine Below.alloc ?_ (by first | omega | (simp; done) | (simp; omega)) _ | with_reducible refine Below.setCell ?_ (by first | omega | (simp; done) | (simp; omega)) _ | with_reducible refine Below.drew ?_ | with_reducible refine below_drewN ?_ _ | with_reducible refine Below.next ?_ (by with_reducible assumption)))) (by decide) (by simp)).mono ?_
  rintro e w15 ⟨A15, c15, rfl, g15, b15⟩
  have z15 := b15.size
  (try simp at z15)
  go_wp2_with fail
  refine (equalA (g14.below (by repeat (first | with_reducible exact Below.refl _ _ | with_reducible assumption | with_reducible refine Below.alloc ?_ (by first | omega | (simp; done) | (simp; omega)) _ | with_reducible refine Below.setCell ?_ (by first | omega | (simp; done) | (simp; omega)) _ | with_reducible refine Below.drew ?_ | with_reducible refine below_drewN ?_ _ | with_reducible refine Below.next ?_ (by with_reducible assumption)))) (g15.below (by repeat (first | with_reducible exact Below.refl _ _ | with_reducible assumption | with_reducible refine Below.alloc ?_ (by first | omega | (simp; done) | (simp; omega)) _ | with_reducible refine Below.setCell ?_ (by first | omega | (simp; done) | (simp; omega)) _ | with_reducible refine Below.drew ?_ | with_reducible refine below_drewN ?_ _ | with_reducible refine Below.next ?_ (by with_reducible assumption)))) (law_p3 _ _)).mono ?_
  rintro e w16 ⟨rfl, b16⟩
  have z16 := b16.size
  (try simp at z16)
  go_wp2_with fail
  refine (union2A (gx.below (by repeat (first | with_reducible exact Below.refl _ _ | with_reducible assumption | with_reducible refine Below.alloc ?_ (by first | omega | (simp; done) | (simp; omega)) _ | with_reducible refine Below.setCell ?_ (by first | omega | (simp; done) | (simp; omega)) _ | with_reducible refine Below.drew ?_ | with_reducible refine below_drewN ?_ _ | with_reducible refine Below.next ?_ (by with_reducible assumption)))) (gy.below (by repeat (first | with_reducible exact Below.refl _ _ | with_reducible assumption | with_reducible refine Below.alloc ?_ (by first | omega | (simp; done) | (simp; omega)) _ | with_reducible refine Below.setCell ?_ (by first | omega | (simp; done) | (simp; omega)) _ | with_reducible refine Below.drew ?_ | with_reducible refine below_drewN ?_ _ | with_reducible refine Below.next ?_ (by with_reducible assumption)))) (by decide) (by simp)).mono ?_
  rintro e w17 ⟨A17, c17, rfl, g17, b17⟩
  have z17 := b17.size
  (try simp at z17)
  go_wp2_with fail
  refine (meetA (gx.below (by repeat (first | with_reducible exact Below.refl _ _ | with_reducible assumption | with_reducible refine Below.alloc ?_ (by first | omega | (simp; done) | (simp; omega)) _ | with_reducible refine Below.setCell ?_ (by first | omega | (simp; done) | (simp; omega)) _ | with_reducible refine Below.drew ?_ | with_reducible refine below_drewN ?_ _ | with_reducible refine Below.next ?_ (by with_reducible assumption)))) (g17.below (by repeat (first | with_reducible exact Below.refl _ _ | with_reducible assumption | with_reducible refine Below.alloc ?_ (by first | omega | (simp; done) | (simp; omega)) _ | with_reducible refine Below.setCell ?_ (by first | omega | (simp; done) | (simp; omega)) _ | with_reducible refine Below.drew ?_ | with_reducible refine below_drewN ?_ _ | with_reducible refine Below.next ?_ (by with_reducible assumption)))) (by decide) (by decide)).mono ?_
  rintro e w18 ⟨A18, c18, rfl, g18, b18⟩
  have z18 := b18.size
  (try simp at z18)
  go_wp2_with fail
  refine (union1A (gx.below (by repeat (first | with_reducible exact Below.refl _ _ | with_reducible assumption | with_reducible refine Below.alloc ?_ (by first | omega | (simp; done) | (simp; omega)) _ | with_reducible refine Below.setCell ?_ (by first | omega | (simp; done) | (simp; omega)) _ | with_reducible refine Below.drew ?_ | with_reducible refine below_drewN ?_ _ | with_reducible refine Below.next ?_ (by with_reducible assumption)))) (by decide) (by simp)).mono ?_
  rintro e w19 ⟨A19, c19, rfl, g19, b19⟩
  have z19 := b19.size
  (try simp at z19)
  go_wp2_with fail
  refine (equalA (g18.below (by repeat (first | with_reducible exact Below.refl _ _ | with_reducible assumption | with_reducible refine Below.alloc ?_ (by first | omega | (simp; done) | (simp; omega)) _ | with_reducible refine Below.setCell ?_ (by first | omega | (simp; done) | (simp; omega)) _ | with_reducible refine Below.drew ?_ | with_reducible refine below_drewN ?_ _ | with_reducible refine Below.next ?_ (by with_reducible assumption)))) (g19.below (by repeat (first | with_reducible exact Below.refl _ _ | with_reducible assumption | with_reducible refine Below.alloc ?_ (by first | omega | (simp; done) | (simp; omega)) _ | with_reducible refine Below.setCell ?_ (by first | omega | (simp; done) | (simp; omega)) _ | with_reducible refine Below.drew ?_ | with_reducible refine below_drewN ?_ _ | with_reducible refine Below.next ?_ (by with_reducible assumption)))) (law_p4 _ _)).mono ?_
  rintro e w20 ⟨rfl, b20⟩
  have z20 := b20.size
  (try simp at z20)
  go_wp2_with fail
  refine (awake_any _).mono ?_
  rintro e w21 ⟨rfl, b21⟩
  have z21 := b21.size
  (try simp at z21)
  go_wp2_with fail
  go_ret
  exact ⟨rfl, (by repeat (first | with_reducible exact Below.refl _ _ | with_reducible assumption | with_reducible refine Below.alloc ?_ (by first | omega | (simp; done) | (simp; omega)) _ | with_reducible refine Below.setCell ?_ (by first | omega | (simp; done) | (simp; omega)) _ | with_reducible refine Below.drew ?_ | with_reducible refine below_drewN ?_ _ | with_reducible refine Below.next ?_ (by with_reducible assumption)))⟩
theorem parts_any {w : World} {a b f : List Int} {A B C : Option Addr} {c d e : Nat} (hc : a.length ≤ c ∧ c ≤ maxLen) (hd : b.length ≤ d ∧ d ≤ maxLen) (he : f.length ≤ e ∧ e ≤ maxLen) (hs : Kn.Sl (Kn.int .i64) w A a) (ht : Kn.Sl (Kn.int .i64) w B b) (hu : Kn.Sl (Kn.int .i64) w C f)
    (hw : ∀ x ∈ a, (Lit.int .i64 x).wf = true) (hw2 : ∀ x ∈ b, (Lit.int .i64 x).wf = true) (hw3 : ∀ x ∈ f, (Lit.int .i64 x).wf = true) :
    Calls Try.prog 8 #[.slice A a.length c, .slice B b.length d, .slice C f.length e] w fun e w' => e = .returned (.bool true) ∧ Below w.heap.size w w' :=
  parts_core (min_take20 a) (min_take20 b) (min_take20 f) (take_arg hc hs hw) (take_arg hd ht hw2) (take_arg he hu hw3)
end Go.Proofs.Ytafnhoccaddagaa
