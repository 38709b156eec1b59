/- PortsUnions: what the first loop makes. -/
import Derived.Test.YtafnhoccaddagaaData
import Derived.Test.YtafnhoccaddagaaRows
import Derived.WalkKit
import Derived.ProofKit
import Derived.Lib.Hide
import Derived.Deep.RegionHeld3
import Derived.Deep.DeepCutAuto
import Derived.Deep.LoopGhost
import Derived.BigQuiet
import Derived.WalkLawsBesides
import Derived.WalkSpells
import Derived.Test.YtafnhoccaddagaaPortsArgs
namespace Go.Proofs.Ytafnhoccaddagaa
open Go.ChangeShapes Go.WideShapes Go.ChangeAt Go.RowKit
set_option linter.unusedVariables false
set_option linter.unusedSimpArgs false
def Agr (ex : Nat → Prop) (W W' : World) : Prop := W.heap.size ≤ W'.heap.size ∧ ∀ k, k < W.heap.size → ¬ ex k → W'.heap[k]? = W.heap[k]?
theorem Agr.refl (ex : Nat → Prop) (W : World) : Agr ex W W := ⟨Nat.le_refl _, fun _ _ _ => rfl⟩
theorem Agr.alloc {ex : Nat → Prop} {W W' : World} (h : Agr ex W W') (o : Obj) : Agr ex W (W'.alloc o) :=
  ⟨Nat.le_trans h.1 (by simp), fun k hk hn => (Below.heap_alloc _ _ _ (Nat.lt_of_lt_of_le hk h.1)).trans (h.2 k hk hn)⟩
theorem Agr.drew {ex : Nat → Prop} {W W' : World} (h : Agr ex W W') : Agr ex W W'.drew := h
theorem Agr.grown {ex : Nat → Prop} {W W' W'' : World} {row : Option Nat} (h : Agr ex W W') (hg : W'.grownBy W'' row) (hr : ∀ k, row = some k → ex k) : Agr ex W W'' :=
  ⟨Nat.le_trans h.1 hg.size, fun k hk hn => (hg.block k (Nat.lt_of_lt_of_le hk h.1) (fun e => hn (hr k e.symm))).trans (h.2 k hk hn)⟩
theorem one_slice (A : Option Addr) (n c : Nat) : ∀ u ∈ [Value.slice A n c], u.oneCell' = true := by intro u hu; rw [List.mem_singleton.1 hu]; rfl
theorem row_of_one {w : World} {g : Nat} {u : Value} {t : TypeId} {fr : Nat × Nat} (h : w.heap[g]? = some (.cells #[u] t fr)) : Row w (some ⟨g, 0, none⟩) [u] := row_of_block h
theorem new_or {v v' : Value} {W : World} {n : Nat} (h : v'.ownBlock = v.ownBlock ∨ v'.ownBlock = some W.heap.size) (hn : n ≤ W.heap.size) : ∀ k, v'.ownBlock = some k → v.ownBlock = some k ∨ n ≤ k := fun k hk => by
  rcases h with e | e
  · exact .inl (e ▸ hk)
  · right; rw [e] at hk; injection hk with hk; omega
theorem apart_of {v v' u : Value} {n : Nat} (h : ∀ k, v'.ownBlock = some k → v.ownBlock = some k ∨ n ≤ k) (hd : ∀ k, v.ownBlock = some k → u.ownBlock ≠ some k) (hu : ∀ k, u.ownBlock = some k → k < n) : v'.ownBlock = none ∨ v'.ownBlock ≠ u.ownBlock := by
  cases hv : v'.ownBlock with
  | none => exact .inl rfl
  | some k =>
    right; intro hk
    rcases h k hv with e | e
    · exact hd k e hk.symm
    · have := hu k hk.symm; omega
theorem grown_of_below {W W' : World} (h : Below W.heap.size W W') : W.grownBy W' none := ⟨h.os, h.tape, h.output, h.size, fun k hk _ => h.block k hk⟩
def Ex (va vb : Value) (k : Nat) : Prop := some k = va.ownBlock ∨ some k = vb.ownBlock
def MadeX (W : World) (ex : Nat → Prop) (ls : List (List Int)) (cs : List Value) : Prop := ∀ W', Agr ex W W' → Kn.Cells (Kn.slice (Kn.int .i64)) W' ls cs
theorem copy_made {ex ex' : Nat → Prop} {Wp w1 W : World} {x : List Int} {A : Option Addr} {c : Nat} (hi : IntsMade Wp w1 x A c) (ha : Agr ex w1 W) (hsz : ∀ k, ex k → k < Wp.heap.size) (hne : ∀ k, ex' k → ¬ (Wp.heap.size ≤ k ∧ k < w1.heap.size)) :
    MadeX W ex' [x] [.slice A x.length c] := fun W' hW => by
  refine Kn.Cells.single (made_ints rfl hi.2.1 W' ⟨Nat.le_trans ha.1 hW.1, fun k h1 h2 _ => ?_⟩)
  exact (hW.2 k (Nat.lt_of_lt_of_le h2 ha.1) (fun e => hne k e ⟨h1, h2⟩)).trans (ha.2 k h2 (fun e => by have := hsz k e; omega))
def Two (w : World) (ls : List (List Int)) (va vb : Value) (W : World) : Prop :=
  ∃ csA csB, W.ownsRow w.heap.size 22 1 va ls.length csA ∧ W.ownsRow w.heap.size 22 1 vb ls.length csB ∧ (∀ k, va.ownBlock = some k → vb.ownBlock ≠ some k) ∧ MadeX W (Ex va vb) ls csA ∧ MadeX W (Ex va vb) ls csB ∧ Below w.heap.size w W
theorem Two.start (w : World) : Two w [] (.slice none 0 0) (.slice none 0 0) w :=
  ⟨[], [], World.ownsRow_nil _ _ _ _, World.ownsRow_nil _ _ _ _, fun k hk => (by cases hk), fun _ _ => rfl, fun _ _ => rfl, Below.refl _ _⟩
theorem Two.step {w wr W : World} {ls : List (List Int)} {va vb va' vb' : Value} {csA csB : List Value} {x : List Int} {A1 A2 : Option Addr} {c1 c2 : Nat} (mA : MadeX wr (Ex va vb) ls csA) (mB : MadeX wr (Ex va vb) ls csB)
    (oA : W.ownsRow w.heap.size 22 1 va' (ls.length + 1) (csA ++ [.slice A1 x.length c1])) (oB : W.ownsRow w.heap.size 22 1 vb' (ls.length + 1) (csB ++ [.slice A2 x.length c2]))
    (lA : ∀ k, va'.ownBlock = some k → va.ownBlock = some k ∨ wr.heap.size ≤ k) (lB : ∀ k, vb'.ownBlock = some k → vb.ownBlock = some k ∨ wr.heap.size ≤ k)
    (hd : ∀ k, va'.ownBlock = some k → vb'.ownBlock ≠ some k) (agr : Agr (Ex va vb) wr W) (e1 : MadeX W (Ex va' vb') [x] [.slice A1 x.length c1]) (e2 : MadeX W (Ex va' vb') [x] [.slice A2 x.length c2]) (hb : Below w.heap.size w W) :
    Two w (ls ++ [x]) va' vb' W := by
  have hmv : ∀ W', Agr (Ex va' vb') W W' → Agr (Ex va vb) wr W' := fun W' hW => ⟨Nat.le_trans agr.1 hW.1, fun k hk hn => (hW.2 k (Nat.lt_of_lt_of_le hk agr.1) (fun e => by
    rcases e with e | e
    · rcases lA k e.symm with h | h
      · exact hn (.inl h.symm)
      · omega
    · rcases lB k e.symm with h | h
      · exact hn (.inr h.symm)
      · omega)).trans (agr.2 k hk hn)⟩
  exact ⟨_, _, by simpa using oA, by simpa using oB, hd, fun W' hW => (mA W' (hmv W' hW)).append (e1 W' hW), fun W' hW => (mB W' (hmv W' hW)).append (e2 W' hW), hb⟩
theorem own_list {W : World} {base : Nat} {v : Value} {ls : List (List Int)} {cs : List Value} (h : W.ownsRow base 22 1 v ls.length cs) (hm : Kn.Cells (Kn.slice (Kn.int .i64)) W ls cs) :
    ∃ A c, v = .slice A ls.length c ∧ (ls.length ≤ c ∧ c ≤ maxLen) ∧ Kn.Sl (Kn.slice (Kn.int .i64)) W A ls := by
  rcases id h.2 with ⟨rfl, h0⟩ | ⟨b, cap, cur, rfl, _, hg, hnc, hcm, _⟩
  · have : ls = [] := List.eq_nil_of_length_eq_zero h0
    subst this
    exact ⟨none, 0, rfl, ⟨Nat.le_refl _, Nat.zero_le _⟩, Kn.Sl.nil _ _ _⟩
  · refine ⟨_, cap, rfl, ⟨hnc, hcm⟩, cs, hm, fun _ => ⟨b, 0, rfl, lt_of_block hg, fun j u hu => ?_⟩⟩
    have := h.cells rfl j u hu
    rwa [Go.WideShapes.add_plain] at this
set_option maxHeartbeats 1000000 in
theorem equalQ {w : World} {xs : List Int} {A B : Option Addr} {c d : Nat} (hc : xs.length ≤ c ∧ c ≤ maxLen) (hd : xs.length ≤ d ∧ d ≤ maxLen) (hs : Kn.Sl (Kn.int .i64) w A xs) (ht : Kn.Sl (Kn.int .i64) w B xs) :
    Calls Try.prog 11 #[.slice A xs.length c, .slice B xs.length d] w fun e w' => e = .returned (.bool true) ∧ ∃ m, w' = w.drewN m := by
  unfold maxLen at hc hd
  go_enter Try.func11, Try.ntmps11
  go_wp2_with fail
  go_loopw [5] (fun i wr => ∃ k : Nat, k ≤ xs.length ∧ i = .int .i64 k ∧ ∃ n, wr = w.drewN n) (fun i _ => xs.length - (valInt i).toNat)
  case atStart => exact ⟨0, Nat.zero_le _, rfl, 0, rfl⟩
  case round =>
    obtain ⟨k, hk, rfl, n, rfl⟩ := hrel
    by_cases hlt : k < xs.length
    · obtain ⟨b, off, rfl, hb, hcell⟩ := hs.ints (by omega)
      obtain ⟨b2, off2, rfl, hb2, hcell2⟩ := ht.ints (by omega)
      have g := hcell k hlt
      have g2 := hcell2 k hlt
      have l0 : (k : Int) < xs.length := by omega
      have l4 : (0 : Int) ≤ k := by omega
      generalize xs.getD k 0 = x at g g2
      clear hcell hcell2
      go_wp2_with fail
      go_quiet (fail)
      go_wp2_with fail
      go_roundw
      case rel => exact ⟨k + 1, by omega, by go_num, n + nq, rfl⟩
      case measure => simp [valInt]; omega
    · go_wp2_with fail
      go_ret
      exact ⟨rfl, n, rfl⟩
theorem twelve_flat (ls : List (List Int)) (k : Nat) (hk : k ≤ 12) : ((ls.take k).map (fun l => l.take 12)).flatten.length ≤ 1048576 := by
  have h : ∀ (m : List (List Int)), (m.map (fun l => l.take 12)).flatten.length ≤ m.length * 12 := fun m => by
    induction m with
    | nil => simp
    | cons a m ih => simp only [List.map_cons, List.flatten_cons, List.length_append, List.length_cons]; have : (a.take 12).length ≤ 12 := by simp; omega
                     omega
  have h1 := h (ls.take k)
  have h2 : (ls.take k).length ≤ k := by simp; omega
  have h3 : (ls.take k).length * 12 ≤ k * 12 := Nat.mul_le_mul_right _ h2
  omega
theorem info_ints : (Try.prog.info? 22).map (fun i => (i.zero, i.size, i.bytes)) = some (some (.slice none 0 0), 1, 24) := by kernel_rfl
theorem min_take12 (a : List Int) : min (a.length : Int) 12 = ((a.take 12).length : Int) := by rw [List.length_take]; omega
set_option maxRecDepth 20000 in
set_option maxHeartbeats 8000000 in
theorem unions_any {w : World} {ls : List (List Int)} {L : Option Addr} {c : Nat} (hc : ls.length ≤ c ∧ c ≤ maxLen) (hs : Kn.Sl (Kn.slice (Kn.int .i64)) w L ls)
    (hw : ∀ l ∈ ls, ∀ x ∈ l, (Lit.int .i64 x).wf = true) : Calls Try.prog 4 #[.slice L ls.length c] w fun e w' => e = .returned (.bool true) ∧ Below w.heap.size w w' := by
  unfold maxLen at hc
  obtain ⟨i1, hi, hz0, hz1, hz2⟩ := info_parts info_ints
  go_enter Try.func4, Try.ntmps4
  go_wp2_with fail
  go_loopw [3, 4, 5] (fun va vb i wr => ∃ k : Nat, k ≤ ls.length ∧ k ≤ 12 ∧ i = .int .i64 k ∧ Two w ((ls.take k).map (fun l => l.take 12)) va vb wr) (fun _ _ i _ => ls.length - (valInt i).toNat)
  case atStart => exact ⟨0, Nat.zero_le _, by omega, rfl, Two.start w⟩
  case round =>
    obtain ⟨k, hk, hk12, rfl, csA, csB, hA0, hB0, hdisj, mA, mB, hb⟩ := hrel
    by_cases hlt : k < ls.length ∧ k < 12
    · obtain ⟨hlt, hlt12⟩ := hlt
      obtain ⟨b0, off, cc0, rfl, hbl, hK0, hcell⟩ := hs.at_ Nat.one_pos (List.getElem?_eq_getElem hlt)
      obtain ⟨l, hel⟩ : ∃ l, l = ls[k] := ⟨_, rfl⟩
      rw [← hel] at hK0
      obtain ⟨A0, cc, rfl, hcc, hs1⟩ := hK0
      have gw : w.cell? ⟨b0, off + k, none⟩ = some (.slice A0 l.length cc) := by
        have h1 := hcell 0 _ rfl
        simpa only [Kn.slice, Nat.mul_one, Nat.add_zero] using h1
      have g := (hb.cell (p := ⟨b0, off + k, none⟩) hbl).trans gw
      have l0 : (k : Int) < ls.length := by omega
      have l4 : (0 : Int) ≤ k := by omega
      have l12 : (k : Int) < 12 := by omega
      have htk : (ls.take (k + 1)).map (fun l => l.take 12) = (ls.take k).map (fun l => l.take 12) ++ [l.take 12] := by rw [List.take_succ_eq_append_getElem hlt, ← hel]; simp
      have hmin := min_take12 l
      have hsx := sl_take hs1 12
      have hx12 : (l.take 12).length ≤ 12 := by simp; omega
      have hcx : (l.take 12).length ≤ cc ∧ cc ≤ maxLen := ⟨by simp; omega, hcc.2⟩
      obtain ⟨x, hx⟩ : ∃ x, x = l.take 12 := ⟨_, rfl⟩
      rw [← hx] at htk hmin hsx hcx hx12
      have j1 : (x.length : Int) ≤ cc := by omega
      obtain ⟨P, hP⟩ : ∃ P, P = (ls.take k).map (fun l => l.take 12) := ⟨_, rfl⟩
      have hPl : P.length ≤ 12 := by rw [hP]; simp; omega
      rw [← hP] at hA0 hB0 mA mB htk
      have HTK := Lib.hid htk
      have hdisjA : ∀ k, u3.ownBlock = some k → u4.ownBlock ≠ some k := hdisj
      have hdisjB : ∀ k, u4.ownBlock = some k → u3.ownBlock ≠ some k := fun k h1 h2 => hdisj k h2 h1
      have dA0 : u3.ownBlock = none ∨ u3.ownBlock ≠ u4.ownBlock := by
        cases hv : u3.ownBlock with
        | none => exact .inl rfl
        | some k => exact .inr (fun h => hdisj k hv h.symm)
      have dB0 : u4.ownBlock = none ∨ u4.ownBlock ≠ u3.ownBlock := by
        cases hv : u4.ownBlock with
        | none => exact .inl rfl
        | some k => exact .inr (fun h => hdisj k h.symm hv)
      have hbz := hb.size
      unfold maxLen at hcc
      clear hcell hel hx hP htk hs1 hdisj
      go_wp2_with fail
      go_region_law (first
        | (apply step_append_row rfl _ _ 32 rfl w.heap.size 22 i1 (.slice none 0 0) 1 24 Try.underlying32 hi hz0 hz1 hz2 rfl (by decide) u3 P.length csA rfl (by repeat (first | with_reducible exact hA0 | with_reducible refine World.ownsRow.alloc ?_ _ | with_reducible refine World.ownsRow.drew ?_ | (refine World.ownsRow.kept ?_ (by assumption) (by first | assumption | exact Classical.em _)))) (some ⟨_, 0, none⟩) 1 1 [.slice _ _ _] rfl ?_ rfl (one_slice _ _ _) (by unfold maxLen; omega) (by omega) (by first | omega | (simp; done) | (simp; omega)) ?_
           rotate_left 3
           · apply row_of_one (t := 22) (fr := (0, 0))
             repeat (first | with_reducible exact heap_last _ _ _ (by simp) | (with_reducible refine (heap_old _ _ _ ?_).trans ?_; · (first | (simp; done) | (simp; omega))) | with_reducible refine (heap_drew _ _).trans ?_ | (refine (World.grownBy.block (row := none) (by assumption) _ (by first | omega | (simp; done) | (simp; omega)) (by simp)).trans ?_) | (refine (World.grownBy.block (row := u3.ownBlock) (by assumption) _ (by first | omega | (simp; done) | (simp; omega)) (by intro hk; have := (hA0.lt _ hk.symm).2; simp at this; omega)).trans ?_) | (refine (World.grownBy.block (row := u4.ownBlock) (by assumption) _ (by first | omega | (simp; done) | (simp; omega)) (by intro hk; have := (hB0.lt _ hk.symm).2; simp at this; omega)).trans ?_))
           intro vA wA hoA hgA hlA
           have zA := hgA.size
           (try simp at zA)
           have cA' := (((by repeat (first | with_reducible assumption | with_reducible refine Below.alloc ?_ (by first | omega | (simp; done) | (simp; omega)) _ | with_reducible refine Below.drew ?_ | (refine Below.grown ?_ (by assumption) (by first | omega | (simp; done) | (simp; omega)) (by intro k hk; first | (cases hk; done) | exact (hA0.lt k hk).1 | exact (hB0.lt k hk).1)))) : Below w.heap.size w wA).cell (p := ⟨b0, off + k, none⟩) hbl).trans gw
           have lA : b0 < wA.heap.size := by omega
           obtain ⟨lA1, lA2, lA3, lA4, lA5⟩ := ltS lA
           (have nA : ∀ k, vA.ownBlock = some k → u3.ownBlock = some k ∨ wr.heap.size ≤ k := new_or hlA (by first | omega | (simp; done) | (simp; omega)))
           (have dA : vA.ownBlock = none ∨ vA.ownBlock ≠ u4.ownBlock := apart_of nA hdisjA (fun k hk => (hB0.lt k hk).2)))
        | (apply step_append_row rfl _ _ 32 rfl w.heap.size 22 i1 (.slice none 0 0) 1 24 Try.underlying32 hi hz0 hz1 hz2 rfl (by decide) u4 P.length csB rfl (by repeat (first | with_reducible exact hB0 | with_reducible refine World.ownsRow.alloc ?_ _ | with_reducible refine World.ownsRow.drew ?_ | (refine World.ownsRow.kept ?_ (by assumption) (by first | assumption | exact Classical.em _)))) (some ⟨_, 0, none⟩) 1 1 [.slice _ _ _] rfl ?_ rfl (one_slice _ _ _) (by unfold maxLen; omega) (by omega) (by first | omega | (simp; done) | (simp; omega)) ?_
           rotate_left 3
           · apply row_of_one (t := 22) (fr := (0, 0))
             repeat (first | with_reducible exact heap_last _ _ _ (by simp) | (with_reducible refine (heap_old _ _ _ ?_).trans ?_; · (first | (simp; done) | (simp; omega))) | with_reducible refine (heap_drew _ _).trans ?_ | (refine (World.grownBy.block (row := none) (by assumption) _ (by first | omega | (simp; done) | (simp; omega)) (by simp)).trans ?_) | (refine (World.grownBy.block (row := u3.ownBlock) (by assumption) _ (by first | omega | (simp; done) | (simp; omega)) (by intro hk; have := (hA0.lt _ hk.symm).2; simp at this; omega)).trans ?_) | (refine (World.grownBy.block (row := u4.ownBlock) (by assumption) _ (by first | omega | (simp; done) | (simp; omega)) (by intro hk; have := (hB0.lt _ hk.symm).2; simp at this; omega)).trans ?_))
           intro vB wB hoB hgB hlB
           have zB := hgB.size
           (try simp at zB)
           have cB' := (((by repeat (first | with_reducible assumption | with_reducible refine Below.alloc ?_ (by first | omega | (simp; done) | (simp; omega)) _ | with_reducible refine Below.drew ?_ | (refine Below.grown ?_ (by assumption) (by first | omega | (simp; done) | (simp; omega)) (by intro k hk; first | (cases hk; done) | exact (hA0.lt k hk).1 | exact (hB0.lt k hk).1)))) : Below w.heap.size w wB).cell (p := ⟨b0, off + k, none⟩) hbl).trans gw
           have lB : b0 < wB.heap.size := by omega
           obtain ⟨lB1, lB2, lB3, lB4, lB5⟩ := ltS lB
           (have nB : ∀ k, vB.ownBlock = some k → u4.ownBlock = some k ∨ wr.heap.size ≤ k := new_or hlB (by first | omega | (simp; done) | (simp; omega)))
           (have dB : vB.ownBlock = none ∨ vB.ownBlock ≠ u3.ownBlock := apart_of nB hdisjB (fun k hk => (hA0.lt k hk).2)))
        | (go_simp; go_at_call 9; refine (copyInts_any hcx (hsx.below (by repeat (first | with_reducible assumption | with_reducible refine Below.alloc ?_ (by first | omega | (simp; done) | (simp; omega)) _ | with_reducible refine Below.drew ?_ | (refine Below.grown ?_ (by assumption) (by first | omega | (simp; done) | (simp; omega)) (by intro k hk; first | (cases hk; done) | exact (hA0.lt k hk).1 | exact (hB0.lt k hk).1))))) (by omega)).mono ?_; rintro e wC ⟨AC, cC, rfl, hiC⟩; have zC := hiC.2.2.size; (try simp at zC); have gC := grown_of_below hiC.2.2; have cC' := (((by repeat (first | with_reducible assumption | with_reducible refine Below.alloc ?_ (by first | omega | (simp; done) | (simp; omega)) _ | with_reducible refine Below.drew ?_ | (refine Below.grown ?_ (by assumption) (by first | omega | (simp; done) | (simp; omega)) (by intro k hk; first | (cases hk; done) | exact (hA0.lt k hk).1 | exact (hB0.lt k hk).1)))) : Below w.heap.size w wC).cell (p := ⟨b0, off + k, none⟩) hbl).trans gw; have lC : b0 < wC.heap.size := (by omega); obtain ⟨lC1, lC2, lC3, lC4, lC5⟩ := ltS lC))
      all_goals
        go_wp2_with fail
        go_roundw
        case rel =>
          refine ⟨k + 1, by omega, by omega, by go_num, ?_⟩
          rw [HTK.out]
          apply Two.step mA mB ?_ ?_ nA nB ?_ ?_ ?_ ?_ ?_
          rotate_left 4
          · exact (by repeat (first | with_reducible exact hoA | with_reducible refine World.ownsRow.alloc ?_ _ | with_reducible refine World.ownsRow.drew ?_ | (refine World.ownsRow.kept ?_ (by assumption) (by first | assumption | exact Classical.em _))))
          · exact (by repeat (first | with_reducible exact hoB | with_reducible refine World.ownsRow.alloc ?_ _ | with_reducible refine World.ownsRow.drew ?_ | (refine World.ownsRow.kept ?_ (by assumption) (by first | assumption | exact Classical.em _))))
          · intro k h1 h2
            have q1 := (hoA.lt k h1).2
            have q2 := (hoB.lt k h2).2
            rcases hlA with f | f
            · rw [f] at h1
              have q3 := (hA0.lt k h1).2
              rcases hlB with f2 | f2
              · rw [f2] at h2; exact hdisjA k h1 h2
              · rw [f2] at h2; injection h2 with h2; (try simp at h2); omega
            · rcases hlB with f2 | f2
              · rw [f2] at h2
                have q3 := (hB0.lt k h2).2
                rw [f] at h1; injection h1 with h1; (try simp at h1); omega
              · rw [f] at h1; rw [f2] at h2; injection h1 with h1; injection h2 with h2; (try simp at h1); (try simp at h2); omega
          · exact (by repeat (first | with_reducible exact Agr.refl _ _ | with_reducible refine Agr.alloc ?_ _ | with_reducible refine Agr.drew ?_ | (refine Agr.grown ?_ (by assumption) (by intro k hk; first | (cases hk; done) | exact .inl hk.symm | exact .inr hk.symm))))
          · exact copy_made (ex := Ex u3 u4) (by assumption) (by repeat (first | with_reducible exact Agr.refl _ _ | with_reducible refine Agr.alloc ?_ _ | with_reducible refine Agr.drew ?_ | (refine Agr.grown ?_ (by assumption) (by intro k hk; first | (cases hk; done) | exact .inl hk.symm | exact .inr hk.symm)))) (by
              intro k hk
              rcases hk with e | e
              · have := (hA0.lt k e.symm).2
                first | omega | (simp; omega)
              · have := (hB0.lt k e.symm).2
                first | omega | (simp; omega)) (by
              rintro k hk ⟨h1, h2⟩
              (try simp at h1)
              rcases hk with e | e
              · have q := (hoA.lt k e.symm).2
                rcases hlA with f | f
                · rw [f] at e; have := (hA0.lt k e.symm).2; omega
                · rw [f] at e; injection e with e; (try simp at e); omega
              · have q := (hoB.lt k e.symm).2
                rcases hlB with f | f
                · rw [f] at e; have := (hB0.lt k e.symm).2; omega
                · rw [f] at e; injection e with e; (try simp at e); omega)
          · exact copy_made (ex := Ex u3 u4) (by assumption) (by repeat (first | with_reducible exact Agr.refl _ _ | with_reducible refine Agr.alloc ?_ _ | with_reducible refine Agr.drew ?_ | (refine Agr.grown ?_ (by assumption) (by intro k hk; first | (cases hk; done) | exact .inl hk.symm | exact .inr hk.symm)))) (by
              intro k hk
              rcases hk with e | e
              · have := (hA0.lt k e.symm).2
                first | omega | (simp; omega)
              · have := (hB0.lt k e.symm).2
                first | omega | (simp; omega)) (by
              rintro k hk ⟨h1, h2⟩
              (try simp at h1)
              rcases hk with e | e
              · have q := (hoA.lt k e.symm).2
                rcases hlA with f | f
                · rw [f] at e; have := (hA0.lt k e.symm).2; omega
                · rw [f] at e; injection e with e; (try simp at e); omega
              · have q := (hoB.lt k e.symm).2
                rcases hlB with f | f
                · rw [f] at e; have := (hB0.lt k e.symm).2; omega
                · rw [f] at e; injection e with e; (try simp at e); omega)
          · exact (by repeat (first | with_reducible assumption | with_reducible refine Below.alloc ?_ (by first | omega | (simp; done) | (simp; omega)) _ | with_reducible refine Below.drew ?_ | (refine Below.grown ?_ (by assumption) (by first | omega | (simp; done) | (simp; omega)) (by intro k hk; first | (cases hk; done) | exact (hA0.lt k hk).1 | exact (hB0.lt k hk).1))))
        case measure => simp [valInt]; omega
    · obtain ⟨W0, hW0⟩ : ∃ W0, W0 = wr := ⟨_, rfl⟩
      subst hW0
      have hwP : ∀ l ∈ (ls.take k).map (fun l => l.take 12), ∀ x ∈ l, (Lit.int .i64 x).wf = true := fun l hl x hx => by
        obtain ⟨l0, h0, rfl⟩ := List.mem_map.1 hl
        exact hw l0 (List.mem_of_mem_take h0) x (List.mem_of_mem_take hx)
      have hfl := twelve_flat ls k hk12
      have hPl : ((ls.take k).map (fun l => l.take 12)).length = k := by simp; omega
      obtain ⟨A, ca, hva, hca, hsa⟩ := own_list hA0 (mA W0 (Agr.refl _ _))
      obtain ⟨B, cb, hvb, hcb, hsb⟩ := own_list hB0 (mB W0 (Agr.refl _ _))
      subst hva
      subst hvb
      generalize (ls.take k).map (fun l => l.take 12) = P at *
      have HW := Lib.hid hwP
      have HA := Lib.hid hsa
      have HB := Lib.hid hsb
      have hca' := hca
      have hcb' := hcb
      unfold maxLen at hca hcb
      clear mA mB hA0 hB0 hdisj hwP hsa hsb
      have hkl := hlt
      clear hPl
      have htest : k = ls.length ∨ (k < ls.length ∧ k = 12) := by omega
      rcases htest with h1 | ⟨h1, h2⟩
      · have i1 : ¬ (k : Int) < ls.length := by omega
        clear h1 hlt hkl hk hk12
        go_wp2_with fail
        go_loopw [7] (fun i wr2 => ∃ r : Nat, r ≤ 2 ∧ i = .int .i64 r ∧ Below W0.heap.size W0 wr2) (fun i _ => 2 - (valInt i).toNat)
        case atStart => exact ⟨0, by omega, rfl, (by repeat (first | with_reducible exact Below.refl _ _ | with_reducible assumption | with_reducible refine Below.alloc ?_ (by first | omega | (simp; done) | (simp; omega)) _ | with_reducible refine Below.setCell ?_ (by first | omega | (simp; done) | (simp; omega)) _ | with_reducible refine Below.drew ?_ | with_reducible refine below_drewN ?_ _ | with_reducible refine Below.next ?_ (by with_reducible assumption)))⟩
        case round =>
          obtain ⟨r, hr, rfl, hb2⟩ := hrel
          obtain ⟨W2, hW2⟩ : ∃ W2, W2 = wr := ⟨_, rfl⟩
          subst hW2
          by_cases hlt2 : r < 2
          · have r0 : (r : Int) < 2 := by omega
            go_wp2_with fail
            refine (union_any (ls := P) hca' (HA.out.below hb2) hfl HW.out).mono ?_
            rintro e w3 ⟨A3, c3, rfl, hi3⟩
            have hb3 := hi3.2.2
            go_wp2_with fail
            refine (refUnion_any (ls := P) hcb' (HB.out.below (hb2.next hb3)) hfl).mono ?_
            rintro e w4 ⟨A4, c4, rfl, hi4⟩
            have hb4 := hi4.2.2
            go_wp2_with fail
            refine (equalInts_any hi3.1 hi4.1 (hi3.sl.below hb4) hi4.sl).mono ?_
            rintro e w5 ⟨rfl, hb5⟩
            have hroom := (hi3.room.below hb4).below hb5
            have hbase : W0.heap.size ≤ W2.heap.size := hb2.size
            have hB := ((hb2.next hb3).next hb4).next hb5
            obtain ⟨l, hl⟩ : ∃ l, l = (unionF P).length := ⟨_, rfl⟩
            have hl40 : l ≤ 1048576 := by have := unionF_length P; omega
            have hlc : l ≤ c3 ∧ c3 ≤ maxLen := by rw [hl]; exact hi3.1
            unfold maxLen at hlc
            rw [← hl] at hroom ⊢
            clear hi3 hi4 hb3 hb4 hb5 hb2 hl
            go_wp2_with fail
            go_loopw [9] (fun i wr3 => ∃ q : Nat, q ≤ l ∧ i = .int .i64 q ∧ Below W0.heap.size W0 wr3 ∧ Room wr3 W2.heap.size A3 l) (fun i _ => l - (valInt i).toNat)
            case atStart => exact ⟨0, by omega, rfl, hB, hroom⟩
            case round =>
              obtain ⟨q, hq, rfl, hB2, hroom2⟩ := hrel
              by_cases hql : q < l
              · obtain ⟨b0, u, rfl, hb0, hb1, hcell, hfz, hset⟩ := hroom2.at_ hql
                have q0 : (q : Int) < l := by omega
                have q1 : (0 : Int) ≤ q := by omega
                have hset' := hset (.int .i64 (-1))
                clear hset
                go_wp2_with fail
                go_roundw
                case rel => exact ⟨q + 1, by omega, by go_num, hB2.setCell (by show W0.heap.size ≤ b0; omega) _, hset'⟩
                case measure => simp [valInt]; omega
              · have q0 : ¬ (q : Int) < l := by omega
                go_wp2_with fail
                go_roundw
                case rel => exact ⟨r + 1, by omega, by go_num, hB2⟩
                case measure => simp [valInt]; omega
          · have r0 : ¬ (r : Int) < 2 := by omega
            go_wp2_with fail
            go_loopw [10] (fun i wr4 => ∃ q : Nat, q ≤ P.length ∧ i = .int .i64 q ∧ Below W0.heap.size W0 wr4) (fun i _ => P.length - (valInt i).toNat)
            case atStart => exact ⟨0, by omega, rfl, hb2⟩
            case round =>
              obtain ⟨q, hq, rfl, hb4⟩ := hrel
              by_cases hql : q < P.length
              · obtain ⟨bA, oA, kA, rfl, _, ⟨A1, c1, rfl, hc1, hs1⟩, hcA⟩ := (HA.out.below hb4).at_ Nat.one_pos (List.getElem?_eq_getElem hql)
                obtain ⟨bB, oB, kB, rfl, _, ⟨A2, c2, rfl, hc2, hs2⟩, hcB⟩ := (HB.out.below hb4).at_ Nat.one_pos (List.getElem?_eq_getElem hql)
                have gA := hcA 0 _ rfl
                have gB := hcB 0 _ rfl
                simp only [Kn.slice, Nat.mul_one, Nat.add_zero] at gA gB
                generalize P[q] = l at *
                have q0 : (q : Int) < P.length := by omega
                have q1 : (0 : Int) ≤ q := by omega
                clear hcA hcB
                go_wp2_with fail
                go_quiet ((go_at_call 11; exact Calls.quiet_of (equalQ hc1 hc2 (hs1.below (by repeat (first | with_reducible exact Below.refl _ _ | with_reducible assumption | with_reducible refine Below.alloc ?_ (by first | omega | (simp; done) | (simp; omega)) _ | with_reducible refine Below.setCell ?_ (by first | omega | (simp; done) | (simp; omega)) _ | with_reducible refine Below.drew ?_ | with_reducible refine below_drewN ?_ _ | with_reducible refine Below.next ?_ (by with_reducible assumption)))) (hs2.below (by repeat (first | with_reducible exact Below.refl _ _ | with_reducible assumption | with_reducible refine Below.alloc ?_ (by first | omega | (simp; done) | (simp; omega)) _ | with_reducible refine Below.setCell ?_ (by first | omega | (simp; done) | (simp; omega)) _ | with_reducible refine Below.drew ?_ | with_reducible refine below_drewN ?_ _ | with_reducible refine Below.next ?_ (by with_reducible assumption)))))))
                go_wp2_with fail
                go_roundw
                case rel => exact ⟨q + 1, by omega, by go_num, (by repeat (first | with_reducible exact Below.refl _ _ | with_reducible assumption | with_reducible refine Below.alloc ?_ (by first | omega | (simp; done) | (simp; omega)) _ | with_reducible refine Below.setCell ?_ (by first | omega | (simp; done) | (simp; omega)) _ | with_reducible refine Below.drew ?_ | with_reducible refine below_drewN ?_ _ | with_reducible refine Below.next ?_ (by with_reducible assumption)))⟩
                case measure => simp [valInt]; omega
              · have q0 : ¬ (q : Int) < P.length := by omega
                go_wp2_with fail
                refine (awake_any _).mono ?_
                rintro e w9 ⟨rfl, b9⟩
                go_wp2_with fail
                go_ret
                exact ⟨rfl, hb.next (hb4.next b9)⟩
      · have i1 : (k : Int) < ls.length := by omega
        have i2 : ¬ (k : Int) < 12 := by omega
        clear h1 h2 hlt hkl hk hk12
        go_wp2_with fail
        go_loopw [7] (fun i wr2 => ∃ r : Nat, r ≤ 2 ∧ i = .int .i64 r ∧ Below W0.heap.size W0 wr2) (fun i _ => 2 - (valInt i).toNat)
        case atStart => exact ⟨0, by omega, rfl, (by repeat (first | with_reducible exact Below.refl _ _ | with_reducible assumption | with_reducible refine Below.alloc ?_ (by first | omega | (simp; done) | (simp; omega)) _ | with_reducible refine Below.setCell ?_ (by first | omega | (simp; done) | (simp; omega)) _ | with_reducible refine Below.drew ?_ | with_reducible refine below_drewN ?_ _ | with_reducible refine Below.next ?_ (by with_reducible assumption)))⟩
        case round =>
          obtain ⟨r, hr, rfl, hb2⟩ := hrel
          obtain ⟨W2, hW2⟩ : ∃ W2, W2 = wr := ⟨_, rfl⟩
          subst hW2
          by_cases hlt2 : r < 2
          · have r0 : (r : Int) < 2 := by omega
            go_wp2_with fail
            refine (union_any (ls := P) hca' (HA.out.below hb2) hfl HW.out).mono ?_
            rintro e w3 ⟨A3, c3, rfl, hi3⟩
            have hb3 := hi3.2.2
            go_wp2_with fail
            refine (refUnion_any (ls := P) hcb' (HB.out.below (hb2.next hb3)) hfl).mono ?_
            rintro e w4 ⟨A4, c4, rfl, hi4⟩
            have hb4 := hi4.2.2
            go_wp2_with fail
            refine (equalInts_any hi3.1 hi4.1 (hi3.sl.below hb4) hi4.sl).mono ?_
            rintro e w5 ⟨rfl, hb5⟩
            have hroom := (hi3.room.below hb4).below hb5
            have hbase : W0.heap.size ≤ W2.heap.size := hb2.size
            have hB := ((hb2.next hb3).next hb4).next hb5
            obtain ⟨l, hl⟩ : ∃ l, l = (unionF P).length := ⟨_, rfl⟩
            have hl40 : l ≤ 1048576 := by have := unionF_length P; omega
            have hlc : l ≤ c3 ∧ c3 ≤ maxLen := by rw [hl]; exact hi3.1
            unfold maxLen at hlc
            rw [← hl] at hroom ⊢
            clear hi3 hi4 hb3 hb4 hb5 hb2 hl
            go_wp2_with fail
            go_loopw [9] (fun i wr3 => ∃ q : Nat, q ≤ l ∧ i = .int .i64 q ∧ Below W0.heap.size W0 wr3 ∧ Room wr3 W2.heap.size A3 l) (fun i _ => l - (valInt i).toNat)
            case atStart => exact ⟨0, by omega, rfl, hB, hroom⟩
            case round =>
              obtain ⟨q, hq, rfl, hB2, hroom2⟩ := hrel
              by_cases hql : q < l
              · obtain ⟨b0, u, rfl, hb0, hb1, hcell, hfz, hset⟩ := hroom2.at_ hql
                have q0 : (q : Int) < l := by omega
                have q1 : (0 : Int) ≤ q := by omega
                have hset' := hset (.int .i64 (-1))
                clear hset
                go_wp2_with fail
                go_roundw
                case rel => exact ⟨q + 1, by omega, by go_num, hB2.setCell (by show W0.heap.size ≤ b0; omega) _, hset'⟩
                case measure => simp [valInt]; omega
              · have q0 : ¬ (q : Int) < l := by omega
                go_wp2_with fail
                go_roundw
                case rel => exact ⟨r + 1, by omega, by go_num, hB2⟩
                case measure => simp [valInt]; omega
          · have r0 : ¬ (r : Int) < 2 := by omega
            go_wp2_with fail
            go_loopw [10] (fun i wr4 => ∃ q : Nat, q ≤ P.length ∧ i = .int .i64 q ∧ Below W0.heap.size W0 wr4) (fun i _ => P.length - (valInt i).toNat)
            case atStart => exact ⟨0, by omega, rfl, hb2⟩
            case round =>
              obtain ⟨q, hq, rfl, hb4⟩ := hrel
              by_cases hql : q < P.length
              · obtain ⟨bA, oA, kA, rfl, _, ⟨A1, c1, rfl, hc1, hs1⟩, hcA⟩ := (HA.out.below hb4).at_ Nat.one_pos (List.getElem?_eq_getElem hql)
                obtain ⟨bB, oB, kB, rfl, _, ⟨A2, c2, rfl, hc2, hs2⟩, hcB⟩ := (HB.out.below hb4).at_ Nat.one_pos (List.getElem?_eq_getElem hql)
                have gA := hcA 0 _ rfl
                have gB := hcB 0 _ rfl
                simp only [Kn.slice, Nat.mul_one, Nat.add_zero] at gA gB
                generalize P[q] = l at *
                have q0 : (q : Int) < P.length := by omega
                have q1 : (0 : Int) ≤ q := by omega
                clear hcA hcB
                go_wp2_with fail
                go_quiet ((go_at_call 11; exact Calls.quiet_of (equalQ hc1 hc2 (hs1.below (by repeat (first | with_reducible exact Below.refl _ _ | with_reducible assumption | with_reducible refine Below.alloc ?_ (by first | omega | (simp; done) | (simp; omega)) _ | with_reducible refine Below.setCell ?_ (by first | omega | (simp; done) | (simp; omega)) _ | with_reducible refine Below.drew ?_ | with_reducible refine below_drewN ?_ _ | with_reducible refine Below.next ?_ (by with_reducible assumption)))) (hs2.below (by repeat (first | with_reducible exact Below.refl _ _ | with_reducible assumption | with_reducible refine Below.alloc ?_ (by first | omega | (simp; done) | (simp; omega)) _ | with_reducible refine Below.setCell ?_ (by first | omega | (simp; done) | (simp; omega)) _ | with_reducible refine Below.drew ?_ | with_reducible refine below_drewN ?_ _ | with_reducible refine Below.next ?_ (by with_reducible assumption)))))))
                go_wp2_with fail
                go_roundw
                case rel => exact ⟨q + 1, by omega, by go_num, (by repeat (first | with_reducible exact Below.refl _ _ | with_reducible assumption | with_reducible refine Below.alloc ?_ (by first | omega | (simp; done) | (simp; omega)) _ | with_reducible refine Below.setCell ?_ (by first | omega | (simp; done) | (simp; omega)) _ | with_reducible refine Below.drew ?_ | with_reducible refine below_drewN ?_ _ | with_reducible refine Below.next ?_ (by with_reducible assumption)))⟩
                case measure => simp [valInt]; omega
              · have q0 : ¬ (q : Int) < P.length := by omega
                go_wp2_with fail
                refine (awake_any _).mono ?_
                rintro e w9 ⟨rfl, b9⟩
                go_wp2_with fail
                go_ret
                exact ⟨rfl, hb.next (hb4.next b9)⟩
end Go.Proofs.Ytafnhoccaddagaa
