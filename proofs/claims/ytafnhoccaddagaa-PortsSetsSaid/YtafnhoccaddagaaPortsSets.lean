/- PortsSets. -/
import Derived.Test.YtafnhoccaddagaaData
import Derived.Test.YtafnhoccaddagaaRows
import Derived.WalkKit
import Derived.ProofKit
import Derived.Lib.Hide
import Derived.Deep.RegionHeld3
import Derived.Deep.DeepCutAuto
import Derived.Deep.LoopGhost
import Derived.BigQuiet
import Derived.WalkLawsBesides
import Derived.WalkSpells
import Derived.Test.YtafnhoccaddagaaPortsArgs
namespace Go.Proofs.Ytafnhoccaddagaa
open Go.ChangeShapes Go.WideShapes Go.ChangeAt Go.RowKit
set_option linter.unusedVariables false
set_option linter.unusedSimpArgs false
theorem asc_len {l l' : List Int} (h : Asc l) (h' : Asc l') (hs : ∀ x ∈ l, x ∈ l') : l.length ≤ l'.length := by
  induction l' generalizing l with
  | nil => cases l with
    | nil => exact Nat.le_refl _
    | cons x l => exact absurd (hs x List.mem_cons_self) (by simp)
  | cons y l' ih =>
    cases l with
    | nil => exact Nat.zero_le _
    | cons x l =>
      obtain ⟨h1, h2⟩ := List.pairwise_cons.1 h
      obtain ⟨h3, h4⟩ := List.pairwise_cons.1 h'
      by_cases hxy : x = y
      · subst hxy
        have := ih h2 h4 (fun z hz => by
          have hlt := h1 z hz
          rcases List.mem_cons.1 (hs z (List.mem_cons_of_mem _ hz)) with e | e
          · omega
          · exact e)
        simpa using this
      · have hx := (List.mem_cons.1 (hs x List.mem_cons_self)).resolve_left hxy
        have hyx := h3 x hx
        have := ih h h4 (fun z hz => by
          rcases List.mem_cons.1 (hs z hz) with e | e
          · rcases List.mem_cons.1 hz with e2 | e2
            · omega
            · have := h1 z e2; omega
          · exact e)
        simp only [List.length_cons] at this ⊢; omega
theorem meet_le_union (a b : List Int) : (meetF a b).length ≤ (unionF [a, b]).length :=
  asc_len (asc_meetF _ _) (asc_unionF _) fun x hx => mem_unionF.2 ⟨a, by simp, (mem_meetF.1 hx).1⟩
theorem meet_union_len {a b : List Int} (ha : Asc a) (hb : Asc b) : (meetF a b).length + (unionF [a, b]).length = a.length + b.length := by
  have hp : (meetF a b ++ unionF [a, b]).Perm (a ++ b) := by
    rw [List.perm_iff_count]
    intro x
    rw [List.count_append, List.count_append, (asc_meetF a b).nodup.count, (asc_unionF [a, b]).nodup.count, ha.nodup.count, hb.nodup.count]
    have hu : (x ∈ unionF [a, b]) = (x ∈ a ∨ x ∈ b) := by simp [mem_unionF]
    have hm : (x ∈ meetF a b) = (x ∈ a ∧ x ∈ b) := by simp [mem_meetF]
    by_cases h1 : x ∈ a <;> by_cases h2 : x ∈ b <;> simp [h1, h2, hu, hm]
  have := hp.length_eq
  simpa using this
theorem chk_zero : ∀ (l : List Int) (b : Int), chk b l = 0 ↔ (∀ x ∈ l, b < x ∧ 1 ≤ x ∧ x ≤ 65535) ∧ Asc l
  | [], b => by simp [chk, Asc]
  | p :: l, b => by
    unfold chk
    have ih := chk_zero l p
    by_cases h1 : p < 1 ∨ 65535 < p
    · rw [if_pos h1]
      constructor
      · intro h; simp at h
      · intro h; have := h.1 p List.mem_cons_self; omega
    · rw [if_neg h1]
      by_cases h2 : p ≤ b
      · rw [if_pos h2]
        constructor
        · intro h; simp at h
        · intro h; have := h.1 p List.mem_cons_self; omega
      · rw [if_neg h2, ih]
        constructor
        · rintro ⟨h3, h4⟩
          refine ⟨fun x hx => ?_, List.pairwise_cons.2 ⟨fun x hx => (h3 x hx).1, h4⟩⟩
          rcases List.mem_cons.1 hx with rfl | hx
          · omega
          · have := h3 x hx; omega
        · rintro ⟨h3, h4⟩
          obtain ⟨h5, h6⟩ := List.pairwise_cons.1 h4
          exact ⟨fun x hx => ⟨h5 x hx, (h3 x (List.mem_cons_of_mem _ hx)).2⟩, h6⟩
theorem checkF_zero (l : List Int) : checkF l = 0 ↔ l.length ≤ 8 ∧ (∀ x ∈ l, 1 ≤ x ∧ x ≤ 65535) ∧ Asc l := by
  unfold checkF
  by_cases h : 8 < l.length
  · rw [if_pos h]
    constructor
    · intro h; simp at h
    · intro h2; omega
  · rw [if_neg h, chk_zero]
    constructor
    · rintro ⟨h1, h2⟩; exact ⟨by omega, fun x hx => (h1 x hx).2, h2⟩
    · rintro ⟨_, h1, h2⟩; exact ⟨fun x hx => ⟨by have := h1 x hx; omega, h1 x hx⟩, h2⟩
theorem check_meet {a b : List Int} (ha : checkF a = 0) : checkF (meetF a b) = 0 := by
  obtain ⟨h1, h2, h3⟩ := (checkF_zero a).1 ha
  exact (checkF_zero _).2 ⟨Nat.le_trans (meetF_length _ _) h1, fun x hx => h2 x (mem_meetF.1 hx).1, asc_meetF _ _⟩
theorem own_lit {W : World} {cs : Array Value} {base g : Nat} {t : TypeId} (hg : g = W.heap.size) (hb : base ≤ g) (hl : cs.size ≤ maxLen) : (W.alloc (.cells cs t)).ownsRow base t 1 (.slice (some ⟨g, 0, none⟩) cs.size cs.size) cs.size cs.toList :=
  ⟨by simp, .inr ⟨g, cs.size, cs, rfl, hb, heap_last _ _ _ hg, Nat.le_refl _, hl, by simp, List.take_of_length_le (by simp)⟩⟩
theorem row_of_sl {W : World} {A : Option Addr} {x : List Int} (h : Kn.Sl (Kn.int .i64) W A x) : Row W A (x.map (Value.int .i64)) := by
  obtain ⟨cs, hcs, hr⟩ := h
  rwa [cells_ints_inv hcs] at hr
theorem hasR {m : Nat} {W : World} {x : List Int} {A : Option Addr} {c : Nat} (a : Arg m W x A c) (p : Int) (r : Bool) (h : x.contains p = r) : Calls Try.prog 15 #[.slice A x.length c, .int .i64 p] W fun e w' => e = .returned (.bool r) ∧ W = w' := by
  subst h; exact has_any a.cap a.sl p
theorem checkR {m : Nat} {W : World} {x : List Int} {A : Option Addr} {c : Nat} (a : Arg m W x A c) (r : Int) (h : checkF x = r) : Calls Try.prog 13 #[.slice A x.length c] W fun e w' => e = .returned (.int .i64 r) ∧ W = w' := by
  subst h; exact check_any a.cap a.sl
theorem ascR {m : Nat} {W : World} {x : List Int} {A : Option Addr} {c : Nat} (a : Arg m W x A c) (h : Asc x) : Calls Try.prog 20 #[.slice A x.length c] W fun e w' => e = .returned (.bool true) ∧ Below W.heap.size W w' := ascending_any a.cap a.sl h
theorem meet_contains (a b : List Int) (p : Int) : (meetF a b).contains p = (a.contains p && b.contains p) := by
  rw [Bool.eq_iff_iff]; simp [mem_meetF]
theorem union_contains (a b : List Int) (p : Int) : (unionF [a, b]).contains p = (a.contains p || b.contains p) := by
  rw [Bool.eq_iff_iff]; simp [mem_unionF]
set_option maxRecDepth 20000 in
set_option maxHeartbeats 4000000 in
theorem sets_core {w : World} {n m : Nat} {x y : List Int} {A B : Option Addr} {c d : Nat} (hq1 : min (n : Int) 30 = x.length) (hq2 : min (m : Int) 30 = y.length) (gx : Arg 30 w x A c) (gy : Arg 30 w y B d) (other : Int) :
    Calls Try.prog 6 #[.slice A n c, .slice B m d, .int .i64 other] w fun e w' => e = .returned (.bool true) ∧ Below w.heap.size w w' := by
  have hc := gx.cap
  have hd := gy.cap
  unfold maxLen at hc hd
  have j1 : (x.length : Int) ≤ c := by omega
  have j2 : (y.length : Int) ≤ d := by omega
  go_enter Try.func6, Try.ntmps6
  go_wp2_with fail
  go_quiet (fail)
  go_wp2_with fail
  refine (meetA (gx.below (by repeat (first | with_reducible exact Below.refl _ _ | with_reducible assumption | with_reducible refine Below.alloc ?_ (by first | omega | (simp; done) | (simp; omega)) _ | with_reducible refine Below.setCell ?_ (by first | omega | (simp; done) | (simp; omega)) _ | with_reducible refine Below.drew ?_ | with_reducible refine below_drewN ?_ _ | with_reducible refine Below.next ?_ (by with_reducible assumption)))) (gy.below (by repeat (first | with_reducible exact Below.refl _ _ | with_reducible assumption | with_reducible refine Below.alloc ?_ (by first | omega | (simp; done) | (simp; omega)) _ | with_reducible refine Below.setCell ?_ (by first | omega | (simp; done) | (simp; omega)) _ | with_reducible refine Below.drew ?_ | with_reducible refine below_drewN ?_ _ | with_reducible refine Below.next ?_ (by with_reducible assumption)))) (by decide) (by decide)).mono ?_
  rintro e w1 ⟨A1, c1, rfl, g1, b1⟩
  have z1 := b1.size
  (try simp at z1)
  go_wp2_with fail
  refine (union2A (gx.below (by repeat (first | with_reducible exact Below.refl _ _ | with_reducible assumption | with_reducible refine Below.alloc ?_ (by first | omega | (simp; done) | (simp; omega)) _ | with_reducible refine Below.setCell ?_ (by first | omega | (simp; done) | (simp; omega)) _ | with_reducible refine Below.drew ?_ | with_reducible refine below_drewN ?_ _ | with_reducible refine Below.next ?_ (by with_reducible assumption)))) (gy.below (by repeat (first | with_reducible exact Below.refl _ _ | with_reducible assumption | with_reducible refine Below.alloc ?_ (by first | omega | (simp; done) | (simp; omega)) _ | with_reducible refine Below.setCell ?_ (by first | omega | (simp; done) | (simp; omega)) _ | with_reducible refine Below.drew ?_ | with_reducible refine below_drewN ?_ _ | with_reducible refine Below.next ?_ (by with_reducible assumption)))) (by decide) (by simp)).mono ?_
  rintro e w2 ⟨A2, c2, rfl, g2, b2⟩
  have z2 := b2.size
  (try simp at z2)
  have hmu := meet_le_union x y
  have ham := asc_meetF x y
  have hau := asc_unionF [x, y]
  have hcm := fun p => meet_contains x y p
  have hcu := fun p => union_contains x y p
  have hch : checkF x = 0 → checkF (meetF x y) = 0 := fun h => check_meet h
  have hml : checkF x = 0 → checkF y = 0 → ((meetF x y).length : Int) + (unionF [x, y]).length = x.length + y.length := fun h1 h2 => by
    have := meet_union_len ((checkF_zero x).1 h1).2.2 ((checkF_zero y).1 h2).2.2; omega
  generalize meetF x y = M at *
  generalize unionF [x, y] = U at *
  have HAM := Lib.hid ham
  have HAU := Lib.hid hau
  have HCM := Lib.hid hcm
  have HCU := Lib.hid hcu
  have HCH := Lib.hid hch
  have HML := Lib.hid hml
  clear ham hau hcm hcu hch hml
  have hmu' : ¬ U.length < M.length := by omega
  go_wp2_with fail
  refine (ascR (g1.below (by repeat (first | with_reducible exact Below.refl _ _ | with_reducible assumption | with_reducible refine Below.alloc ?_ (by first | omega | (simp; done) | (simp; omega)) _ | with_reducible refine Below.setCell ?_ (by first | omega | (simp; done) | (simp; omega)) _ | with_reducible refine Below.drew ?_ | with_reducible refine below_drewN ?_ _ | with_reducible refine Below.next ?_ (by with_reducible assumption)))) HAM.out).mono ?_
  rintro e w3 ⟨rfl, b3⟩
  have z3 := b3.size
  (try simp at z3)
  go_wp2_with fail
  refine (ascR (g2.below (by repeat (first | with_reducible exact Below.refl _ _ | with_reducible assumption | with_reducible refine Below.alloc ?_ (by first | omega | (simp; done) | (simp; omega)) _ | with_reducible refine Below.setCell ?_ (by first | omega | (simp; done) | (simp; omega)) _ | with_reducible refine Below.drew ?_ | with_reducible refine below_drewN ?_ _ | with_reducible refine Below.next ?_ (by with_reducible assumption)))) HAU.out).mono ?_
  rintro e w4 ⟨rfl, b4⟩
  have z4 := b4.size
  (try simp at z4)
  have GX : Arg 30 w4 x A c := gx.below (by repeat (first | with_reducible exact Below.refl _ _ | with_reducible assumption | with_reducible refine Below.alloc ?_ (by first | omega | (simp; done) | (simp; omega)) _ | with_reducible refine Below.setCell ?_ (by first | omega | (simp; done) | (simp; omega)) _ | with_reducible refine Below.drew ?_ | with_reducible refine below_drewN ?_ _ | with_reducible refine Below.next ?_ (by with_reducible assumption)))
  have GY : Arg 30 w4 y B d := gy.below (by repeat (first | with_reducible exact Below.refl _ _ | with_reducible assumption | with_reducible refine Below.alloc ?_ (by first | omega | (simp; done) | (simp; omega)) _ | with_reducible refine Below.setCell ?_ (by first | omega | (simp; done) | (simp; omega)) _ | with_reducible refine Below.drew ?_ | with_reducible refine below_drewN ?_ _ | with_reducible refine Below.next ?_ (by with_reducible assumption)))
  have GM : Arg 30 w4 M A1 c1 := g1.below (by repeat (first | with_reducible exact Below.refl _ _ | with_reducible assumption | with_reducible refine Below.alloc ?_ (by first | omega | (simp; done) | (simp; omega)) _ | with_reducible refine Below.setCell ?_ (by first | omega | (simp; done) | (simp; omega)) _ | with_reducible refine Below.drew ?_ | with_reducible refine below_drewN ?_ _ | with_reducible refine Below.next ?_ (by with_reducible assumption)))
  have GU : Arg (30 + 30) w4 U A2 c2 := g2.below (by repeat (first | with_reducible exact Below.refl _ _ | with_reducible assumption | with_reducible refine Below.alloc ?_ (by first | omega | (simp; done) | (simp; omega)) _ | with_reducible refine Below.setCell ?_ (by first | omega | (simp; done) | (simp; omega)) _ | with_reducible refine Below.drew ?_ | with_reducible refine below_drewN ?_ _ | with_reducible refine Below.next ?_ (by with_reducible assumption)))
  have B4 : Below w.heap.size w w4 := (by repeat (first | with_reducible exact Below.refl _ _ | with_reducible assumption | with_reducible refine Below.alloc ?_ (by first | omega | (simp; done) | (simp; omega)) _ | with_reducible refine Below.setCell ?_ (by first | omega | (simp; done) | (simp; omega)) _ | with_reducible refine Below.drew ?_ | with_reducible refine below_drewN ?_ _ | with_reducible refine Below.next ?_ (by with_reducible assumption)))
  have lx := GX.len
  have ly := GY.len
  have lm := GM.len
  have lu := GU.len
  clear gx gy g1 g2 b1 b2 b3 b4 z1 z2 z3 z4
  obtain ⟨i0, hi, hz0, hz1, hz2⟩ := info_parts info_int
  go_wp2_with (at_builtin; first
    | (refine wpList_append_row _ rfl _ _ 22 rfl w4.heap.size 3 i0 (.int .i64 0) 1 8 Try.underlying22 hi hz0 hz1 hz2 rfl (by decide) (.slice (some ⟨_, 0, none⟩) 1 1) 1 [.int .i64 other] rfl (own_lit (cs := #[.int .i64 other]) rfl (Nat.le_refl _) (by unfold maxLen; simp)) A x.length c (x.map (Value.int .i64)) rfl (row_of_sl (GX.sl.below (by repeat (first | with_reducible exact Below.refl _ _ | with_reducible assumption | with_reducible refine Below.alloc ?_ (by first | omega | (simp; done) | (simp; omega)) _ | with_reducible refine Below.setCell ?_ (by first | omega | (simp; done) | (simp; omega)) _ | with_reducible refine Below.drew ?_ | with_reducible refine below_drewN ?_ _ | with_reducible refine Below.next ?_ (by with_reducible assumption))))) (by simp) (ints_one _) (by unfold maxLen; omega) (by omega) (by first | omega | (simp; done) | (simp; omega)) ?_; intro v1 y1 o1 hg1 hl1; have zy1 := hg1.size; (try simp at zy1); have q1 : Below w4.heap.size w4 y1 := Below.grown (by repeat (first | with_reducible exact Below.refl _ _ | with_reducible assumption | with_reducible refine Below.alloc ?_ (by first | omega | (simp; done) | (simp; omega)) _ | with_reducible refine Below.setCell ?_ (by first | omega | (simp; done) | (simp; omega)) _ | with_reducible refine Below.drew ?_ | with_reducible refine below_drewN ?_ _ | with_reducible refine Below.next ?_ (by with_reducible assumption))) hg1 (by first | omega | (simp; done) | (simp; omega)) (fun q hq => by cases hq; first | omega | (simp; done) | (simp; omega)))
    | (refine wpList_append_row _ rfl _ _ 22 rfl w4.heap.size 3 i0 (.int .i64 0) 1 8 Try.underlying22 hi hz0 hz1 hz2 rfl (by decide) v1 _ _ rfl o1 B y.length d (y.map (Value.int .i64)) rfl (row_of_sl (GY.sl.below (by repeat (first | with_reducible exact Below.refl _ _ | with_reducible assumption | with_reducible refine Below.alloc ?_ (by first | omega | (simp; done) | (simp; omega)) _ | with_reducible refine Below.setCell ?_ (by first | omega | (simp; done) | (simp; omega)) _ | with_reducible refine Below.drew ?_ | with_reducible refine below_drewN ?_ _ | with_reducible refine Below.next ?_ (by with_reducible assumption))))) (by simp) (ints_one _) (by unfold maxLen; omega) (by omega) (by first | omega | (simp; done) | (simp; omega)) ?_; intro v2 y2 o2 hg2 hl2; have zy2 := hg2.size; (try simp at zy2); have q2 : Below w4.heap.size w4 y2 := Below.grown (by repeat (first | with_reducible exact Below.refl _ _ | with_reducible assumption | with_reducible refine Below.alloc ?_ (by first | omega | (simp; done) | (simp; omega)) _ | with_reducible refine Below.setCell ?_ (by first | omega | (simp; done) | (simp; omega)) _ | with_reducible refine Below.drew ?_ | with_reducible refine below_drewN ?_ _ | with_reducible refine Below.next ?_ (by with_reducible assumption))) hg2 (by first | omega | (simp; done) | (simp; omega)) (fun q hq => (o1.lt q hq).1))
    | (refine wpList_append_row _ rfl _ _ 22 rfl w4.heap.size 3 i0 (.int .i64 0) 1 8 Try.underlying22 hi hz0 hz1 hz2 rfl (by decide) v2 _ _ rfl o2 A1 M.length c1 (M.map (Value.int .i64)) rfl (row_of_sl (GM.sl.below (by repeat (first | with_reducible exact Below.refl _ _ | with_reducible assumption | with_reducible refine Below.alloc ?_ (by first | omega | (simp; done) | (simp; omega)) _ | with_reducible refine Below.setCell ?_ (by first | omega | (simp; done) | (simp; omega)) _ | with_reducible refine Below.drew ?_ | with_reducible refine below_drewN ?_ _ | with_reducible refine Below.next ?_ (by with_reducible assumption))))) (by simp) (ints_one _) (by unfold maxLen; omega) (by omega) (by first | omega | (simp; done) | (simp; omega)) ?_; intro v3 y3 o3 hg3 hl3; have zy3 := hg3.size; (try simp at zy3); have q3 : Below w4.heap.size w4 y3 := Below.grown (by repeat (first | with_reducible exact Below.refl _ _ | with_reducible assumption | with_reducible refine Below.alloc ?_ (by first | omega | (simp; done) | (simp; omega)) _ | with_reducible refine Below.setCell ?_ (by first | omega | (simp; done) | (simp; omega)) _ | with_reducible refine Below.drew ?_ | with_reducible refine below_drewN ?_ _ | with_reducible refine Below.next ?_ (by with_reducible assumption))) hg3 (by first | omega | (simp; done) | (simp; omega)) (fun q hq => (o2.lt q hq).1))
    | (refine wpList_append_row _ rfl _ _ 22 rfl w4.heap.size 3 i0 (.int .i64 0) 1 8 Try.underlying22 hi hz0 hz1 hz2 rfl (by decide) v3 _ _ rfl o3 A2 U.length c2 (U.map (Value.int .i64)) rfl (row_of_sl (GU.sl.below (by repeat (first | with_reducible exact Below.refl _ _ | with_reducible assumption | with_reducible refine Below.alloc ?_ (by first | omega | (simp; done) | (simp; omega)) _ | with_reducible refine Below.setCell ?_ (by first | omega | (simp; done) | (simp; omega)) _ | with_reducible refine Below.drew ?_ | with_reducible refine below_drewN ?_ _ | with_reducible refine Below.next ?_ (by with_reducible assumption))))) (by simp) (ints_one _) (by unfold maxLen; omega) (by omega) (by first | omega | (simp; done) | (simp; omega)) ?_; intro v4 y4 o4 hg4 hl4; have zy4 := hg4.size; (try simp at zy4); have q4 : Below w4.heap.size w4 y4 := Below.grown (by repeat (first | with_reducible exact Below.refl _ _ | with_reducible assumption | with_reducible refine Below.alloc ?_ (by first | omega | (simp; done) | (simp; omega)) _ | with_reducible refine Below.setCell ?_ (by first | omega | (simp; done) | (simp; omega)) _ | with_reducible refine Below.drew ?_ | with_reducible refine below_drewN ?_ _ | with_reducible refine Below.next ?_ (by with_reducible assumption))) hg4 (by first | omega | (simp; done) | (simp; omega)) (fun q hq => (o3.lt q hq).1)))
  have hLL : [Value.int .i64 other] ++ x.map (Value.int .i64) ++ y.map (Value.int .i64) ++ M.map (Value.int .i64) ++ U.map (Value.int .i64) = (other :: (x ++ (y ++ (M ++ U)))).map (Value.int .i64) := by simp
  rw [hLL] at o4
  obtain ⟨A9, c9, e9, hi9⟩ := IntsPost.mk (w := w4) (x := other :: (x ++ (y ++ (M ++ U)))) o4 (by simp; omega) (Nat.le_refl _) q4
  injection e9 with e9
  subst e9
  have hsL := hi9.sl
  have hcL := hi9.1
  unfold maxLen at hcL
  have GX9 := GX.below q4
  have GY9 := GY.below q4
  have GM9 := GM.below q4
  have GU9 := GU.below q4
  have B9 := B4.next q4
  clear hLL o1 o2 o3 o4 hg1 hg2 hg3 hg4 hl1 hl2 hl3 hl4 q1 q2 q3 zy1 zy2 zy3 zy4 hi9 GX GY GM GU q4 B4
  generalize other :: (x ++ (y ++ (M ++ U))) = L at *
  have HSL := Lib.hid hsL
  have HX := Lib.hid GX9
  have HY := Lib.hid GY9
  have HM := Lib.hid GM9
  have HU := Lib.hid GU9
  clear hsL GX9 GY9 GM9 GU9
  go_wp2_with fail
  go_loopw [10] (fun i wr => ∃ k : Nat, k ≤ L.length ∧ i = .int .i64 k ∧ Below y4.heap.size y4 wr) (fun i _ => L.length - (valInt i).toNat)
  case atStart => exact ⟨0, Nat.zero_le _, rfl, Below.refl _ _⟩
  case round =>
    obtain ⟨k, hk, rfl, hb⟩ := hrel
    by_cases hlt : k < L.length
    · obtain ⟨b0, off, rfl, hb0, hcell⟩ := HSL.out.ints (by omega)
      have g := (hb.cell (p := ⟨b0, off + k, none⟩) hb0).trans (hcell k hlt)
      have l0 : (k : Int) < L.length := by omega
      have l4 : (0 : Int) ≤ k := by omega
      obtain ⟨p, hp⟩ : ∃ p, p = L.getD k 0 := ⟨_, rfl⟩
      rw [← hp] at g
      clear hcell hp
      have hmp := HCM.out p
      have hup := HCU.out p
      cases hrx : x.contains p <;> cases hry : y.contains p <;> (rw [hrx, hry] at hmp hup; simp only [Bool.and_true, Bool.and_false, Bool.or_true, Bool.or_false, Bool.true_and, Bool.false_and] at hmp hup)
      all_goals
        have RX := Lib.hid hrx
        have RY := Lib.hid hry
        have RM := Lib.hid hmp
        have RU := Lib.hid hup
        clear hrx hry hmp hup
        go_wp2_with fail
        go_quiet ((go_at_call 15; first | exact quiet_left (hasR ((HX.out.below hb).below (by repeat (first | with_reducible exact Below.refl _ _ | with_reducible assumption | with_reducible refine Below.alloc ?_ (by first | omega | (simp; done) | (simp; omega)) _ | with_reducible refine Below.setCell ?_ (by first | omega | (simp; done) | (simp; omega)) _ | with_reducible refine Below.drew ?_ | with_reducible refine below_drewN ?_ _ | with_reducible refine Below.next ?_ (by with_reducible assumption)))) p _ RX.out) | exact quiet_left (hasR ((HY.out.below hb).below (by repeat (first | with_reducible exact Below.refl _ _ | with_reducible assumption | with_reducible refine Below.alloc ?_ (by first | omega | (simp; done) | (simp; omega)) _ | with_reducible refine Below.setCell ?_ (by first | omega | (simp; done) | (simp; omega)) _ | with_reducible refine Below.drew ?_ | with_reducible refine below_drewN ?_ _ | with_reducible refine Below.next ?_ (by with_reducible assumption)))) p _ RY.out)))
        go_wp2_with fail
        refine (hasR ((HM.out.below hb).below (by repeat (first | with_reducible exact Below.refl _ _ | with_reducible assumption | with_reducible refine Below.alloc ?_ (by first | omega | (simp; done) | (simp; omega)) _ | with_reducible refine Below.setCell ?_ (by first | omega | (simp; done) | (simp; omega)) _ | with_reducible refine Below.drew ?_ | with_reducible refine below_drewN ?_ _ | with_reducible refine Below.next ?_ (by with_reducible assumption)))) p _ RM.out).mono ?_
        rintro e w9 ⟨rfl, rfl⟩
        go_wp2_with fail
        refine (hasR ((HU.out.below hb).below (by repeat (first | with_reducible exact Below.refl _ _ | with_reducible assumption | with_reducible refine Below.alloc ?_ (by first | omega | (simp; done) | (simp; omega)) _ | with_reducible refine Below.setCell ?_ (by first | omega | (simp; done) | (simp; omega)) _ | with_reducible refine Below.drew ?_ | with_reducible refine below_drewN ?_ _ | with_reducible refine Below.next ?_ (by with_reducible assumption)))) p _ RU.out).mono ?_
        rintro e w9 ⟨rfl, rfl⟩
        go_wp2_with fail
        go_roundw
        case rel => exact ⟨k + 1, by omega, by go_num, hb.next (by repeat (first | with_reducible exact Below.refl _ _ | with_reducible assumption | with_reducible refine Below.alloc ?_ (by first | omega | (simp; done) | (simp; omega)) _ | with_reducible refine Below.setCell ?_ (by first | omega | (simp; done) | (simp; omega)) _ | with_reducible refine Below.drew ?_ | with_reducible refine below_drewN ?_ _ | with_reducible refine Below.next ?_ (by with_reducible assumption)))⟩
        case measure => simp [valInt]; omega
    · have l0 : ¬ (k : Int) < L.length := by omega
      obtain ⟨cx, hcx⟩ : ∃ cx, checkF x = cx := ⟨_, rfl⟩
      obtain ⟨cy, hcy⟩ : ∃ cy, checkF y = cy := ⟨_, rfl⟩
      by_cases hx0 : cx = 0
      · by_cases hy0 : cy = 0
        · subst hx0; subst hy0
          have hm0 := HCH.out hcx
          have hl0 := HML.out hcx hcy
          have CX := Lib.hid hcx
          have CY := Lib.hid hcy
          have CM := Lib.hid hm0
          clear hcx hcy hm0
          go_wp2_with fail
          refine (checkR (HX.out.below hb) 0 CX.out).mono ?_
          rintro e w9 ⟨rfl, rfl⟩
          go_wp2_with fail
          refine (checkR (HY.out.below hb) 0 CY.out).mono ?_
          rintro e w9 ⟨rfl, rfl⟩
          go_wp2_with fail
          refine (checkR (HM.out.below hb) 0 CM.out).mono ?_
          rintro e w9 ⟨rfl, rfl⟩
          go_wp2_with fail
          refine (awake_any _).mono ?_
          rintro e w9 ⟨rfl, b9⟩
          go_wp2_with fail
          go_ret
          exact ⟨rfl, (B9.next hb).next b9⟩
        · subst hx0
          have CX := Lib.hid hcx
          have CY := Lib.hid hcy
          have hyb : (cy == 0) = false := by simpa using hy0
          clear hcx hcy hy0
          go_wp2_with fail
          refine (checkR (HX.out.below hb) 0 CX.out).mono ?_
          rintro e w9 ⟨rfl, rfl⟩
          go_wp2_with fail
          refine (checkR (HY.out.below hb) cy CY.out).mono ?_
          rintro e w9 ⟨rfl, rfl⟩
          go_wp2_with fail
          refine (awake_any _).mono ?_
          rintro e w9 ⟨rfl, b9⟩
          go_wp2_with fail
          go_ret
          exact ⟨rfl, (B9.next hb).next b9⟩
      · have CX := Lib.hid hcx
        have hxb : (cx == 0) = false := by simpa using hx0
        clear hcx hcy hx0
        go_wp2_with fail
        refine (checkR (HX.out.below hb) cx CX.out).mono ?_
        rintro e w9 ⟨rfl, rfl⟩
        go_wp2_with fail
        refine (awake_any _).mono ?_
        rintro e w9 ⟨rfl, b9⟩
        go_wp2_with fail
        go_ret
        exact ⟨rfl, (B9.next hb).next b9⟩
theorem sets_any {w : World} {a b : List Int} {A B : Option Addr} {c d : Nat} (hc : a.length ≤ c ∧ c ≤ maxLen) (hd : b.length ≤ d ∧ d ≤ maxLen) (hs : Kn.Sl (Kn.int .i64) w A a) (ht : Kn.Sl (Kn.int .i64) w B b)
    (hw : ∀ x ∈ a, (Lit.int .i64 x).wf = true) (hw2 : ∀ x ∈ b, (Lit.int .i64 x).wf = true) (other : Int) :
    Calls Try.prog 6 #[.slice A a.length c, .slice B b.length d, .int .i64 other] w fun e w' => e = .returned (.bool true) ∧ Below w.heap.size w w' :=
  sets_core (min_take30 a) (min_take30 b) (take_arg hc hs hw) (take_arg hd ht hw2) other
end Go.Proofs.Ytafnhoccaddagaa
