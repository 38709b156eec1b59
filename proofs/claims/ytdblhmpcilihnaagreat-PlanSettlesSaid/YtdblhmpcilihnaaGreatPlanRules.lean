/- plan.rules: what is next in each state: each rule by a walk. -/
import Derived.Test.YtdblhmpcilihnaaGreatData
import Derived.Test.YtdblhmpcilihnaaGreatRows
import Derived.WalkKit
import Derived.ProofKit
import Derived.Lib.Hide
import Derived.Deep.RegionHeld3
import Derived.Deep.DeepCutAuto
import Derived.Deep.LoopGhost
import Derived.BigQuiet
import Derived.WalkLawsBesides
import Derived.WalkSpells
set_option maxRecDepth 100000
namespace Go.Proofs.YtdblhmpcilihnaaGreat
open Go.ChangeShapes Go.WideShapes Go.ChangeAt Go.RowKit
set_option linter.unusedVariables false
set_option linter.unusedSimpArgs false

def startF (t : Task) (k : Look) : Step := if (k.expired || (k.other || ((t.state == 3) && decide (k.now < t.due)))) = true then ⟨0, 0⟩ else ⟨1, 0⟩
def firstF (a : Int) (b : Bool) (c : Int) : Int := if b then a else c
def NoneAt (w : World) (g : Nat) : Prop := w.heap[g]? = some (.cells #[.int .u8 0, .int .i64 0] 91 (0, 0))

set_option maxHeartbeats 1000000 in
theorem rule1_any (t : Task) (k : Look) (A : Option Addr) (c : Nat) (g : Nat) (w : World) (hg : NoneAt w g) :
    Calls Tryz.prog 150 #[t.val A c, k.val, .pointer (some ⟨g, 0, none⟩)] w fun e w' => e = .returned (startF t k).val ∧ Below w.heap.size w w' := by
  have hlt : g < w.heap.size := lt_of_block hg
  have c0 : w.cell? ⟨g, 0, none⟩ = some (.int .u8 0) := (cell_of_row w g 0 _ _ _ hg).trans rfl
  have c1 : w.cell? ⟨g, 1, none⟩ = some (.int .i64 0) := (cell_of_row w g 1 _ _ _ hg).trans rfl
  clear hg
  obtain ⟨l1, l2, l3, l4, l5⟩ := ltS hlt
  simp only [Task.val, Look.val]
  cases h1 : k.expired <;> cases h2 : k.other <;> cases h3 : (t.state == 3) <;> cases h4 : decide (k.now < t.due)
  all_goals
    go_enter Tryz.func150, Tryz.ntmps150
    go_wp2_with fail
    refine bodyPost_ret (v := (startF t k).val) ?_ rfl ⟨rfl, ?_⟩
    · simp [results, Tryz.results150, go_sem, startF, Step.val, h1, h2, h3, h4, c0, c1, hlt]
    · exact (by repeat (first | with_reducible exact Below.refl _ _ | with_reducible assumption | with_reducible refine Below.alloc ?_ (by first | omega | (simp; done) | (simp; omega)) _ | with_reducible refine Below.setCell ?_ (by first | omega | (simp; done) | (simp; omega)) _ | with_reducible refine Below.drew ?_ | with_reducible refine below_drewN ?_ _ | with_reducible refine Below.next ?_ (by with_reducible assumption)))

theorem first_any (a : Int) (b : Bool) (c : Int) (w : World) : Calls Tryz.prog 153 #[.int .u8 a, .bool b, .int .u8 c] w fun e w' => e = .returned (.int .u8 (firstF a b c)) ∧ w = w' := by
  cases b
  all_goals
    go_enter Tryz.func153, Tryz.ntmps153
    go_wp2_with fail
    go_ret
    exact ⟨rfl, rfl⟩
def live4 (_ : Task) (k : Look) : Int := firstF 4 k.fenced 2
def live5 (_ : Task) (k : Look) : Int := firstF 4 (k.fenced || k.sick) 0
def live6 (t : Task) (k : Look) : Int := firstF 4 (k.fenced || decide (t.until_ ≤ k.now)) (firstF 6 (!k.proc.term) 0)
def live7 (_ : Task) (k : Look) : Int := firstF 5 (!k.proc.kill) 0
/-- The block of the captured function 'first'. -/
def FirstAt (w : World) (g : Nat) : Prop := w.heap[g]? = some (.cells #[.func (.func 153) #[] #[]] 180 (0, 0))
theorem FirstAt.since {w w' : World} {g : Nat} (h : FirstAt w g) (hs : Since w w') : FirstAt w' g := (hs g (lt_of_block h)).trans h
set_option maxHeartbeats 1000000 in
theorem rule4_any (t : Task) (k : Look) (A : Option Addr) (c : Nat) (g : Nat) (w : World) (hg : FirstAt w g) :
    Calls Tryz.prog 154 #[t.val A c, k.val, .pointer (some ⟨g, 0, none⟩)] w fun e w' => e = .returned (.int .u8 (live4 t k)) ∧ Below w.heap.size w w' := by
  have hlt : g < w.heap.size := lt_of_block hg
  have c0 := cell_of_one hg
  clear hg
  obtain ⟨l1, l2, l3, l4, l5⟩ := ltS hlt
  simp only [Task.val, Look.val]
  go_enter Tryz.func154, Tryz.ntmps154
  go_wp2_with (go_at_call 153; refine (first_any _ _ _ _).mono ?_; rintro e w' ⟨rfl, rfl⟩)
  go_ret
  exact ⟨rfl, (by repeat (first | with_reducible exact Below.refl _ _ | with_reducible assumption | with_reducible refine Below.alloc ?_ (by first | omega | (simp; done) | (simp; omega)) _ | with_reducible refine Below.setCell ?_ (by first | omega | (simp; done) | (simp; omega)) _ | with_reducible refine Below.drew ?_ | with_reducible refine below_drewN ?_ _ | with_reducible refine Below.next ?_ (by with_reducible assumption)))⟩
set_option maxHeartbeats 1000000 in
theorem rule5_any (t : Task) (k : Look) (A : Option Addr) (c : Nat) (g : Nat) (w : World) (hg : FirstAt w g) :
    Calls Tryz.prog 155 #[t.val A c, k.val, .pointer (some ⟨g, 0, none⟩)] w fun e w' => e = .returned (.int .u8 (live5 t k)) ∧ Below w.heap.size w w' := by
  have hlt : g < w.heap.size := lt_of_block hg
  have c0 := cell_of_one hg
  clear hg
  obtain ⟨l1, l2, l3, l4, l5⟩ := ltS hlt
  simp only [Task.val, Look.val]
  cases h1 : k.fenced
  all_goals
    go_enter Tryz.func155, Tryz.ntmps155
    go_wp2_with (go_at_call 153; refine (first_any _ _ _ _).mono ?_; rintro e w' ⟨rfl, rfl⟩)
    go_ret
    exact ⟨by unfold live5; rw [h1]; rfl, (by repeat (first | with_reducible exact Below.refl _ _ | with_reducible assumption | with_reducible refine Below.alloc ?_ (by first | omega | (simp; done) | (simp; omega)) _ | with_reducible refine Below.setCell ?_ (by first | omega | (simp; done) | (simp; omega)) _ | with_reducible refine Below.drew ?_ | with_reducible refine below_drewN ?_ _ | with_reducible refine Below.next ?_ (by with_reducible assumption)))⟩
set_option maxHeartbeats 1000000 in
theorem rule7_any (t : Task) (k : Look) (A : Option Addr) (c : Nat) (g : Nat) (w : World) (hg : FirstAt w g) :
    Calls Tryz.prog 157 #[t.val A c, k.val, .pointer (some ⟨g, 0, none⟩)] w fun e w' => e = .returned (.int .u8 (live7 t k)) ∧ Below w.heap.size w w' := by
  have hlt : g < w.heap.size := lt_of_block hg
  have c0 := cell_of_one hg
  clear hg
  obtain ⟨l1, l2, l3, l4, l5⟩ := ltS hlt
  simp only [Task.val, Look.val]
  go_enter Tryz.func157, Tryz.ntmps157
  go_wp2_with (go_at_call 153; refine (first_any _ _ _ _).mono ?_; rintro e w' ⟨rfl, rfl⟩)
  go_ret
  exact ⟨rfl, (by repeat (first | with_reducible exact Below.refl _ _ | with_reducible assumption | with_reducible refine Below.alloc ?_ (by first | omega | (simp; done) | (simp; omega)) _ | with_reducible refine Below.setCell ?_ (by first | omega | (simp; done) | (simp; omega)) _ | with_reducible refine Below.drew ?_ | with_reducible refine below_drewN ?_ _ | with_reducible refine Below.next ?_ (by with_reducible assumption)))⟩
set_option maxHeartbeats 1000000 in
theorem rule6_any (t : Task) (k : Look) (A : Option Addr) (c : Nat) (g : Nat) (w : World) (hg : FirstAt w g) :
    Calls Tryz.prog 156 #[t.val A c, k.val, .pointer (some ⟨g, 0, none⟩)] w fun e w' => e = .returned (.int .u8 (live6 t k)) ∧ Below w.heap.size w w' := by
  have hlt : g < w.heap.size := lt_of_block hg
  have c0 := cell_of_one hg
  clear hg
  obtain ⟨l1, l2, l3, l4, l5⟩ := ltS hlt
  simp only [Task.val, Look.val]
  cases h1 : k.fenced
  all_goals
    go_enter Tryz.func156, Tryz.ntmps156
    go_wp2_with fail
    go_quiet ((go_at_call 153; exact quiet_left (first_any _ _ _ _)))
    go_wp2_with fail
    go_ret
    exact ⟨by unfold live6; rw [h1]; rfl, (by repeat (first | with_reducible exact Below.refl _ _ | with_reducible assumption | with_reducible refine Below.alloc ?_ (by first | omega | (simp; done) | (simp; omega)) _ | with_reducible refine Below.setCell ?_ (by first | omega | (simp; done) | (simp; omega)) _ | with_reducible refine Below.drew ?_ | with_reducible refine below_drewN ?_ _ | with_reducible refine Below.next ?_ (by with_reducible assumption)))⟩
end Go.Proofs.YtdblhmpcilihnaaGreat
