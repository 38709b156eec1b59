/- The reference's with: a number laid into an ascending list of the call's own. -/
import Derived.Test.YtdblhmpcilihnaaGreatData
import Derived.Test.YtdblhmpcilihnaaGreatRows
import Derived.WalkKit
import Derived.ProofKit
import Derived.Lib.Hide
import Derived.Deep.RegionHeld3
import Derived.Deep.DeepCutAuto
import Derived.Deep.LoopGhost
import Derived.BigQuiet
import Derived.WalkLawsBesides
import Derived.WalkSpells
import Derived.Test.YtdblhmpcilihnaaGreatPortsCheck
import Derived.Deep.RegionLaw
import Derived.Deep.AppendLies
set_option maxRecDepth 100000
namespace Go.Proofs.YtdblhmpcilihnaaGreat
open Go.ChangeShapes Go.WideShapes Go.ChangeAt Go.RowKit
set_option linter.unusedVariables false
set_option linter.unusedSimpArgs false
theorem step_append_row {P : Program} {w : World} {ops : Array Oper} {o : Oper} {a : Act} {K : Act → World → Prop} {Q : Exit → Act → World → Prop} {E : Prop} (hgd : o.guard = none) (s x : Operand) (t : TypeId)
    (ho : o.op = .call { callee := .builtin .append, args := #[s, x], argTypes := #[t, t] })
    (base : Nat) (e : TypeId) (i : TypeInfo) (z : Value) (size bytes : Nat) (ht : P.underlying t = some (.slice e)) (hi : P.info? e = some i) (hz : i.zero = some z)
    (hsize : i.size = size) (hby : i.bytes = bytes) (hzs : z.cells.size = size) (hsz : 0 < size)
    (v : Value) (n : Nat) (xs : List Value) (hs : a.eval s = v) (hown : w.ownsRow base e size v n xs)
    (A : Option Addr) (m c : Nat) (news : List Value) (hx : a.eval x = .slice A m c) (hr : Row w A news) (hl : news.length = m * size) (h1 : ∀ u ∈ news, u.oneCell' = true)
    (h63 : n + m ≤ maxLen) (hbytes : (n + m) * bytes ≤ 140737488355328) (hbase : base ≤ w.heap.size)
    (h : ∀ v' w', w'.ownsRow base e size v' (n + m) (xs ++ news) → w.grownBy w' v.ownBlock → (v'.ownBlock = v.ownBlock ∨ v'.ownBlock = some w.heap.size) → K (a.put o.dst v') w') :
    if Region.wanted o (yielded ops a.tmps) = true then Oper.wp P o a w K Q else E := by
  have hw : Region.wanted o (yielded ops a.tmps) = true := by simp [Region.wanted, hgd]
  rw [if_pos hw]
  obtain ⟨v', w', hrun, h2, h3, h4⟩ := run_append_row (P := P) w base t o.type e i z size bytes ht hi hz hsize hby hzs hsz v n xs hown A m c news hr hl h1 h63 hbytes hbase
  unfold Oper.wp execOp
  simp only [ho, resolve, invoke, builtin, Sem.run_bind, Sem.run_pure, Result.andThen_ok, List.map_toArray, List.map_cons, List.map_nil, hs, hx, hrun]
  exact h v' w' h2 h3 h4
theorem owns_empty {w : World} {base g : Nat} {e : TypeId} (h : w.heap[g]? = some (.cells #[] e (0, 0))) (hb : base ≤ g) : w.ownsRow base e 1 (.slice (some ⟨g, 0, none⟩) 0 0) 0 [] :=
  ⟨by simp, .inr ⟨g, 0, #[], rfl, hb, h, Nat.le_refl _, Nat.zero_le _, by simp, by simp⟩⟩
theorem heap_drew (w : World) (k : Nat) : w.drew.heap[k]? = w.heap[k]? := rfl
theorem heap_last (w : World) (o : Obj) (k : Nat) (h : k = w.heap.size) : (w.alloc o).heap[k]? = some o := by
  subst h; exact heap_alloc_new w o
theorem heap_old (w : World) (o : Obj) (k : Nat) (h : k < w.heap.size) : (w.alloc o).heap[k]? = w.heap[k]? := Below.heap_alloc _ _ _ h
theorem row_of_block {w : World} {g : Nat} {cs : Array Value} {t : TypeId} {fr : Nat × Nat} (h : w.heap[g]? = some (.cells cs t fr)) : Row w (some ⟨g, 0, none⟩) cs.toList := fun _ =>
  ⟨g, 0, rfl, lt_of_block h, fun j u hu => by rw [Nat.zero_add, cell_of_row _ _ _ cs t _ h]; simpa using hu⟩
theorem row_ints {w : World} {b off : Nat} {xs : List Int} (hb : b < w.heap.size) (h : ∀ j, j < xs.length → w.cell? ⟨b, off + j, none⟩ = some (.int .i64 (xs.getD j 0))) : Row w (some ⟨b, off, none⟩) (xs.map (Value.int .i64)) := fun _ =>
  ⟨b, off, rfl, hb, fun j u hu => by
    have hj : j < xs.length := by have := (List.getElem?_eq_some_iff.1 hu).1; simpa using this
    rw [h j hj, ← hu]; simp [List.getD, hj]⟩
theorem ints_one (xs : List Int) : ∀ u ∈ xs.map (Value.int .i64), u.oneCell' = true := by
  intro u hu; obtain ⟨_, _, rfl⟩ := List.mem_map.1 hu; rfl
def WithPost (base : Nat) (w : World) (x : List Int) (e : Ending) (w' : World) : Prop := ∃ v', e = .returned v' ∧ w'.ownsRow base 3 1 v' x.length (x.map (Value.int .i64)) ∧ Below w.heap.size w w'
theorem WithPost.mk {base : Nat} {w w' : World} {x : List Int} {v : Value} {m : Nat} {ys : List Value} (h : w'.ownsRow w.heap.size 3 1 v m ys) (hb : base ≤ w.heap.size) (hm : m = x.length) (hy : ys = x.map (Value.int .i64)) (hB : Below w.heap.size w w') : WithPost base w x (.returned v) w' := by
  subst hm; subst hy
  exact ⟨v, rfl, ⟨h.1, h.2.imp id fun ⟨b, cap, cur, h1, h2, h3⟩ => ⟨b, cap, cur, h1, Nat.le_trans hb h2, h3⟩⟩, hB⟩
set_option maxRecDepth 20000 in
set_option maxHeartbeats 4000000 in
theorem with_nil {w : World} {base : Nat} (hb : base ≤ w.heap.size) (n : Int) :
    Calls Tryz.prog 193 #[.slice none 0 0, .int .i64 n] w (WithPost base w (ins [] n)) := by
  obtain ⟨i0, hi, hz0, hz1, hz2⟩ := info_parts info_int
  go_enter Tryz.func193, Tryz.ntmps193
  go_wp2_with fail
  go_loopw [5] (fun i wr => i = .int .i64 0 ∧ w = wr) (fun _ _ => 0)
  case atStart => exact ⟨rfl, rfl⟩
  case round =>
    obtain ⟨rfl, rfl⟩ := hrel
    go_wp2_with fail
    go_region_law (first
      | (refine step_append_row rfl _ _ 32 rfl w.heap.size 3 i0 (.int .i64 0) 1 8 Tryz.underlying32 hi hz0 hz1 hz2 rfl (by decide) (.slice (some ⟨_, 0, none⟩) 0 0) 0 [] rfl (owns_empty (by repeat (first | with_reducible exact heap_last _ _ _ (by simp) | (with_reducible refine (heap_old _ _ _ ?_).trans ?_; · (first | (simp; done) | (simp; omega))) | with_reducible refine (heap_drew _ _).trans ?_)) (by first | omega | (simp; done) | (simp; omega))) _ _ _ ([].map (Value.int .i64)) rfl ((Row.nil _ _).since (Since.of_below (w := w) (by repeat (first | with_reducible exact Below.refl _ _ | with_reducible assumption | with_reducible refine Below.alloc ?_ (by first | omega | (simp; done) | (simp; omega)) _ | with_reducible refine Below.setCell ?_ (by first | omega | (simp; done) | (simp; omega)) _ | with_reducible refine Below.drew ?_ | with_reducible refine below_drewN ?_ _ | with_reducible refine Below.next ?_ (by with_reducible assumption))))) rfl (ints_one _) (by unfold maxLen; first | omega | (simp; omega)) (by first | omega | (simp; omega)) (by first | omega | (simp; done) | (simp; omega)) ?_; intro v1 w1 ho1 hg1 hl1; have hz1' := hg1.size; (try simp at hz1'); have hb1 : Below w.heap.size w w1 := Below.grown (by repeat (first | with_reducible exact Below.refl _ _ | with_reducible assumption | with_reducible refine Below.alloc ?_ (by first | omega | (simp; done) | (simp; omega)) _ | with_reducible refine Below.setCell ?_ (by first | omega | (simp; done) | (simp; omega)) _ | with_reducible refine Below.drew ?_ | with_reducible refine below_drewN ?_ _ | with_reducible refine Below.next ?_ (by with_reducible assumption))) hg1 (by first | omega | (simp; done) | (simp; omega)) (fun q hq => by cases hq; first | omega | (simp; done) | (simp; omega)))
      | (refine step_append_row rfl _ _ 32 rfl w.heap.size 3 i0 (.int .i64 0) 1 8 Tryz.underlying32 hi hz0 hz1 hz2 rfl (by decide) v1 _ _ rfl (by first | exact ho1 | exact ho1.alloc _) (some ⟨_, 0, none⟩) 1 1 [.int .i64 n] rfl (row_of_block (cs := #[.int .i64 n]) (t := 3) (fr := (0, 0)) (by repeat (first | with_reducible exact heap_last _ _ _ (by simp) | (with_reducible refine (heap_old _ _ _ ?_).trans ?_; · (first | (simp; done) | (simp; omega))) | with_reducible refine (heap_drew _ _).trans ?_ | refine (hg1.block _ (by first | (simp; done) | (simp; omega)) (by first | (simp [Value.ownBlock]; done) | (simp [Value.ownBlock]; omega))).trans ?_))) rfl (by simp [Value.oneCell']) (by unfold maxLen; first | omega | (simp; omega)) (by first | omega | (simp; omega)) (by first | omega | (simp; done) | (simp; omega)) ?_; intro v2 w2 ho2 hg2 hl2; have hz2' := hg2.size; (try simp at hz2'); have hb2 : Below w.heap.size w w2 := Below.grown (by repeat (first | with_reducible exact Below.refl _ _ | with_reducible assumption | with_reducible refine Below.alloc ?_ (by first | omega | (simp; done) | (simp; omega)) _ | with_reducible refine Below.setCell ?_ (by first | omega | (simp; done) | (simp; omega)) _ | with_reducible refine Below.drew ?_ | with_reducible refine below_drewN ?_ _ | with_reducible refine Below.next ?_ (by with_reducible assumption))) hg2 (by first | omega | (simp; done) | (simp; omega)) (fun q hq => (ho1.lt q hq).1))
      | (refine step_append_row rfl _ _ 32 rfl w.heap.size 3 i0 (.int .i64 0) 1 8 Tryz.underlying32 hi hz0 hz1 hz2 rfl (by decide) v2 _ _ rfl (by first | exact ho2 | exact ho2.alloc _) _ _ _ ([].map (Value.int .i64)) rfl ((Row.nil _ _).since (Since.of_below (w := w) (by repeat (first | with_reducible exact Below.refl _ _ | with_reducible assumption | with_reducible refine Below.alloc ?_ (by first | omega | (simp; done) | (simp; omega)) _ | with_reducible refine Below.setCell ?_ (by first | omega | (simp; done) | (simp; omega)) _ | with_reducible refine Below.drew ?_ | with_reducible refine below_drewN ?_ _ | with_reducible refine Below.next ?_ (by with_reducible assumption))))) rfl (ints_one _) (by unfold maxLen; first | omega | (simp; omega)) (by first | omega | (simp; omega)) (by first | omega | (simp; done) | (simp; omega)) ?_; intro v3 w3 ho3 hg3 hl3; have hb3 : Below w.heap.size w w3 := Below.grown (by repeat (first | with_reducible exact Below.refl _ _ | with_reducible assumption | with_reducible refine Below.alloc ?_ (by first | omega | (simp; done) | (simp; omega)) _ | with_reducible refine Below.setCell ?_ (by first | omega | (simp; done) | (simp; omega)) _ | with_reducible refine Below.drew ?_ | with_reducible refine below_drewN ?_ _ | with_reducible refine Below.next ?_ (by with_reducible assumption))) hg3 (by first | omega | (simp; done) | (simp; omega)) (fun q hq => (ho2.lt q hq).1)))
    all_goals go_wp2_with fail
    all_goals go_ret
    all_goals exact WithPost.mk ho3 hb rfl rfl hb3
set_option maxRecDepth 20000 in
set_option maxHeartbeats 4000000 in
theorem with_any {w : World} {base : Nat} {v : Value} {l : List Int} (hown : w.ownsRow base 3 1 v l.length (l.map (Value.int .i64))) (hb : base ≤ w.heap.size) (hl : l.length ≤ 1048576) (n : Int) :
    Calls Tryz.prog 193 #[v, .int .i64 n] w (WithPost base w (ins l n)) := by
  rcases id hown.2 with ⟨rfl, h0⟩ | ⟨b, cap, cur, rfl, hbb, hg, hnc, hcm, hsz, hcur⟩
  · obtain rfl : l = [] := List.eq_nil_of_length_eq_zero h0
    exact with_nil hb n
  · obtain ⟨i0, hi, hz0, hz1, hz2⟩ := info_parts info_int
    have hbl := lt_of_block hg
    unfold maxLen at hcm
    have hcell : ∀ j, j < l.length → w.cell? ⟨b, j, none⟩ = some (.int .i64 (l.getD j 0)) := fun j hj => by
      have := hown.cells rfl j (.int .i64 (l.getD j 0)) (by simp [List.getD, hj])
      rwa [Go.WideShapes.add_plain, Nat.zero_add] at this
    have HC := Lib.hid hcell
    have HG := Lib.hid hg
    have HO := Lib.hid hown
    clear hcell hg hown hcur hsz
    go_enter Tryz.func193, Tryz.ntmps193
    go_wp2_with fail
    go_loopw [5] (fun i wr => ∃ k : Nat, k ≤ l.length ∧ i = .int .i64 k ∧ Hid (∀ j x, j < k → l[j]? = some x → x < n) ∧ w = wr) (fun i _ => l.length - (valInt i).toNat)
    case atStart => exact ⟨0, Nat.zero_le _, rfl, Lib.hid (fun j x h => absurd h (by omega)), rfl⟩
    case round =>
      obtain ⟨k, hk, rfl, hbe, rfl⟩ := hrel
      have k0 : (0 : Int) ≤ k := by omega
      have k1 : (k : Int) ≤ l.length := by omega
      have k2 : (k : Int) ≤ cap := by omega
      by_cases hlt : k < l.length
      · have g := HC.out k hlt
        have l0 : (k : Int) < l.length := by omega
        have hx0 : l[k]? = some (l.getD k 0) := by simp [List.getD, hlt]
        obtain ⟨x, hx⟩ : ∃ x, x = l.getD k 0 := ⟨_, rfl⟩
        rw [← hx] at g hx0
        have HX := Lib.hid hx0
        clear hx hx0
        by_cases h1 : x < n
        · go_wp2_with fail
          go_roundw
          case rel => exact ⟨k + 1, by omega, by go_num, Lib.hid (fun j y hj hy => by
            rcases Nat.lt_succ_iff_lt_or_eq.1 hj with h | rfl
            · exact hbe.out j y h hy
            · rw [HX.out] at hy; cases hy; exact h1), by simp⟩
          case measure => simp [valInt]; omega
        · have hins := ins_at hk hbe.out (fun y hy => by rw [HX.out] at hy; cases hy; exact h1)
          rw [HX.out] at hins
          have HI := Lib.hid hins
          clear hins
          cases h2 : (x == n)
          · have hne : ¬ x = n := by simpa using h2
            have hrt : Row w (some ⟨b, 0, none⟩) ((l.take k).map (Value.int .i64)) := row_ints hbl (fun j hj => by
              have hj1 : j < k ∧ j < l.length := by simp at hj; omega
              rw [Nat.zero_add, HC.out j hj1.2]; simp [List.getD, List.getElem?_take, hj1.1, hj1.2])
            have hrd : Row w (some ⟨b, k, none⟩) ((l.drop k).map (Value.int .i64)) := row_ints hbl (fun j hj => by rw [HC.out (k + j) (by simp at hj; omega)]; simp [List.getD])
            have hck : ¬ cap = k := by omega
            have hpost : Hid ((([] : List Value) ++ (l.take k).map (Value.int .i64)) ++ [Value.int .i64 n] ++ (l.drop k).map (Value.int .i64) = (ins l n).map (Value.int .i64)) := Lib.hid (by rw [HI.out, if_neg (by simpa using hne)]; simp)
            have hlen : 0 + k + 1 + (l.length - k) = (ins l n).length := by rw [HI.out, if_neg (by simpa using hne)]; simp; omega
            go_wp2_with fail
            go_region_law (first
              | (refine step_append_row rfl _ _ 32 rfl w.heap.size 3 i0 (.int .i64 0) 1 8 Tryz.underlying32 hi hz0 hz1 hz2 rfl (by decide) (.slice (some ⟨_, 0, none⟩) 0 0) 0 [] rfl (owns_empty (by repeat (first | with_reducible exact heap_last _ _ _ (by simp) | (with_reducible refine (heap_old _ _ _ ?_).trans ?_; · (first | (simp; done) | (simp; omega))) | with_reducible refine (heap_drew _ _).trans ?_)) (by first | omega | (simp; done) | (simp; omega))) _ _ _ ((l.take k).map (Value.int .i64)) rfl (hrt.since (Since.of_below (w := w) (by repeat (first | with_reducible exact Below.refl _ _ | with_reducible assumption | with_reducible refine Below.alloc ?_ (by first | omega | (simp; done) | (simp; omega)) _ | with_reducible refine Below.setCell ?_ (by first | omega | (simp; done) | (simp; omega)) _ | with_reducible refine Below.drew ?_ | with_reducible refine below_drewN ?_ _ | with_reducible refine Below.next ?_ (by with_reducible assumption))))) (by first | (simp; done) | (simp; omega)) (ints_one _) (by unfold maxLen; first | omega | (simp; omega)) (by first | omega | (simp; omega)) (by first | omega | (simp; done) | (simp; omega)) ?_; intro v1 w1 ho1 hg1 hl1; have hz1' := hg1.size; (try simp at hz1'); have hb1 : Below w.heap.size w w1 := Below.grown (by repeat (first | with_reducible exact Below.refl _ _ | with_reducible assumption | with_reducible refine Below.alloc ?_ (by first | omega | (simp; done) | (simp; omega)) _ | with_reducible refine Below.setCell ?_ (by first | omega | (simp; done) | (simp; omega)) _ | with_reducible refine Below.drew ?_ | with_reducible refine below_drewN ?_ _ | with_reducible refine Below.next ?_ (by with_reducible assumption))) hg1 (by first | omega | (simp; done) | (simp; omega)) (fun q hq => by cases hq; first | omega | (simp; done) | (simp; omega)))
              | (refine step_append_row rfl _ _ 32 rfl w.heap.size 3 i0 (.int .i64 0) 1 8 Tryz.underlying32 hi hz0 hz1 hz2 rfl (by decide) v1 _ _ rfl (by first | exact ho1 | exact ho1.alloc _) (some ⟨_, 0, none⟩) 1 1 [.int .i64 n] rfl (row_of_block (cs := #[.int .i64 n]) (t := 3) (fr := (0, 0)) (by repeat (first | with_reducible exact heap_last _ _ _ (by simp) | (with_reducible refine (heap_old _ _ _ ?_).trans ?_; · (first | (simp; done) | (simp; omega))) | with_reducible refine (heap_drew _ _).trans ?_ | refine (hg1.block _ (by first | (simp; done) | (simp; omega)) (by first | (simp [Value.ownBlock]; done) | (simp [Value.ownBlock]; omega))).trans ?_))) rfl (by simp [Value.oneCell']) (by unfold maxLen; first | omega | (simp; omega)) (by first | omega | (simp; omega)) (by first | omega | (simp; done) | (simp; omega)) ?_; intro v2 w2 ho2 hg2 hl2; have hz2' := hg2.size; (try simp at hz2'); have hb2 : Below w.heap.size w w2 := Below.grown (by repeat (first | with_reducible exact Below.refl _ _ | with_reducible assumption | with_reducible refine Below.alloc ?_ (by first | omega | (simp; done) | (simp; omega)) _ | with_reducible refine Below.setCell ?_ (by first | omega | (simp; done) | (simp; omega)) _ | with_reducible refine Below.drew ?_ | with_reducible refine below_drewN ?_ _ | with_reducible refine Below.next ?_ (by with_reducible assumption))) hg2 (by first | omega | (simp; done) | (simp; omega)) (fun q hq => (ho1.lt q hq).1))
              | (refine step_append_row rfl _ _ 32 rfl w.heap.size 3 i0 (.int .i64 0) 1 8 Tryz.underlying32 hi hz0 hz1 hz2 rfl (by decide) v2 _ _ rfl (by first | exact ho2 | exact ho2.alloc _) _ _ _ ((l.drop k).map (Value.int .i64)) rfl (hrd.since (Since.of_below (w := w) (by repeat (first | with_reducible exact Below.refl _ _ | with_reducible assumption | with_reducible refine Below.alloc ?_ (by first | omega | (simp; done) | (simp; omega)) _ | with_reducible refine Below.setCell ?_ (by first | omega | (simp; done) | (simp; omega)) _ | with_reducible refine Below.drew ?_ | with_reducible refine below_drewN ?_ _ | with_reducible refine Below.next ?_ (by with_reducible assumption))))) (by first | (simp; done) | (simp; omega)) (ints_one _) (by unfold maxLen; first | omega | (simp; omega)) (by first | omega | (simp; omega)) (by first | omega | (simp; done) | (simp; omega)) ?_; intro v3 w3 ho3 hg3 hl3; have hb3 : Below w.heap.size w w3 := Below.grown (by repeat (first | with_reducible exact Below.refl _ _ | with_reducible assumption | with_reducible refine Below.alloc ?_ (by first | omega | (simp; done) | (simp; omega)) _ | with_reducible refine Below.setCell ?_ (by first | omega | (simp; done) | (simp; omega)) _ | with_reducible refine Below.drew ?_ | with_reducible refine below_drewN ?_ _ | with_reducible refine Below.next ?_ (by with_reducible assumption))) hg3 (by first | omega | (simp; done) | (simp; omega)) (fun q hq => (ho2.lt q hq).1)))
            all_goals go_wp2_with fail
            all_goals go_ret
            all_goals exact WithPost.mk ho3 hb (by omega) hpost.out hb3
          · have hee : x = n := by simpa using h2
            go_wp2_with fail
            go_ret
            refine ⟨_, rfl, ?_, Below.refl _ _⟩
            rw [HI.out, if_pos (by rw [hee])]
            exact HO.out
      · obtain rfl : k = l.length := by omega
        have hins := ins_at hk hbe.out (fun y hy => by simp at hy)
        have HI := Lib.hid hins
        clear hins
        rw [List.take_length, List.drop_length] at HI
        have hrt : Row w (some ⟨b, 0, none⟩) (l.map (Value.int .i64)) := row_ints hbl (fun j hj => by rw [Nat.zero_add, HC.out j hj])
        have hpost : Hid ((([] : List Value) ++ l.map (Value.int .i64)) ++ [Value.int .i64 n] ++ ([] : List Int).map (Value.int .i64) = (ins l n).map (Value.int .i64)) := Lib.hid (by rw [HI.out, if_neg (by simp)]; simp)
        have hlen : 0 + l.length + 1 + 0 = (ins l n).length := by simp [HI.out]
        clear HI
        have k3 : (l.length : Int) ≤ cap := by omega
        go_wp2_with fail
        go_region_law (first
          | (refine step_append_row rfl _ _ 32 rfl w.heap.size 3 i0 (.int .i64 0) 1 8 Tryz.underlying32 hi hz0 hz1 hz2 rfl (by decide) (.slice (some ⟨_, 0, none⟩) 0 0) 0 [] rfl (owns_empty (by repeat (first | with_reducible exact heap_last _ _ _ (by simp) | (with_reducible refine (heap_old _ _ _ ?_).trans ?_; · (first | (simp; done) | (simp; omega))) | with_reducible refine (heap_drew _ _).trans ?_)) (by first | omega | (simp; done) | (simp; omega))) _ _ _ (l.map (Value.int .i64)) rfl (hrt.since (Since.of_below (w := w) (by repeat (first | with_reducible exact Below.refl _ _ | with_reducible assumption | with_reducible refine Below.alloc ?_ (by first | omega | (simp; done) | (simp; omega)) _ | with_reducible refine Below.setCell ?_ (by first | omega | (simp; done) | (simp; omega)) _ | with_reducible refine Below.drew ?_ | with_reducible refine below_drewN ?_ _ | with_reducible refine Below.next ?_ (by with_reducible assumption))))) (by simp) (ints_one _) (by unfold maxLen; first | omega | (simp; omega)) (by first | omega | (simp; omega)) (by first | omega | (simp; done) | (simp; omega)) ?_; intro v1 w1 ho1 hg1 hl1; have hz1' := hg1.size; (try simp at hz1'); have hb1 : Below w.heap.size w w1 := Below.grown (by repeat (first | with_reducible exact Below.refl _ _ | with_reducible assumption | with_reducible refine Below.alloc ?_ (by first | omega | (simp; done) | (simp; omega)) _ | with_reducible refine Below.setCell ?_ (by first | omega | (simp; done) | (simp; omega)) _ | with_reducible refine Below.drew ?_ | with_reducible refine below_drewN ?_ _ | with_reducible refine Below.next ?_ (by with_reducible assumption))) hg1 (by first | omega | (simp; done) | (simp; omega)) (fun q hq => by cases hq; first | omega | (simp; done) | (simp; omega)))
          | (refine step_append_row rfl _ _ 32 rfl w.heap.size 3 i0 (.int .i64 0) 1 8 Tryz.underlying32 hi hz0 hz1 hz2 rfl (by decide) v1 _ _ rfl (by first | exact ho1 | exact ho1.alloc _) (some ⟨_, 0, none⟩) 1 1 [.int .i64 n] rfl (row_of_block (cs := #[.int .i64 n]) (t := 3) (fr := (0, 0)) (by repeat (first | with_reducible exact heap_last _ _ _ (by simp) | (with_reducible refine (heap_old _ _ _ ?_).trans ?_; · (first | (simp; done) | (simp; omega))) | with_reducible refine (heap_drew _ _).trans ?_ | refine (hg1.block _ (by first | (simp; done) | (simp; omega)) (by first | (simp [Value.ownBlock]; done) | (simp [Value.ownBlock]; omega))).trans ?_))) rfl (by simp [Value.oneCell']) (by unfold maxLen; first | omega | (simp; omega)) (by first | omega | (simp; omega)) (by first | omega | (simp; done) | (simp; omega)) ?_; intro v2 w2 ho2 hg2 hl2; have hz2' := hg2.size; (try simp at hz2'); have hb2 : Below w.heap.size w w2 := Below.grown (by repeat (first | with_reducible exact Below.refl _ _ | with_reducible assumption | with_reducible refine Below.alloc ?_ (by first | omega | (simp; done) | (simp; omega)) _ | with_reducible refine Below.setCell ?_ (by first | omega | (simp; done) | (simp; omega)) _ | with_reducible refine Below.drew ?_ | with_reducible refine below_drewN ?_ _ | with_reducible refine Below.next ?_ (by with_reducible assumption))) hg2 (by first | omega | (simp; done) | (simp; omega)) (fun q hq => (ho1.lt q hq).1))
          | (refine step_append_row rfl _ _ 32 rfl w.heap.size 3 i0 (.int .i64 0) 1 8 Tryz.underlying32 hi hz0 hz1 hz2 rfl (by decide) v2 _ _ rfl (by first | exact ho2 | exact ho2.alloc _) _ _ _ (([] : List Int).map (Value.int .i64)) rfl ((Row.nil _ _).since (Since.of_below (w := w) (by repeat (first | with_reducible exact Below.refl _ _ | with_reducible assumption | with_reducible refine Below.alloc ?_ (by first | omega | (simp; done) | (simp; omega)) _ | with_reducible refine Below.setCell ?_ (by first | omega | (simp; done) | (simp; omega)) _ | with_reducible refine Below.drew ?_ | with_reducible refine below_drewN ?_ _ | with_reducible refine Below.next ?_ (by with_reducible assumption))))) rfl (ints_one _) (by unfold maxLen; first | omega | (simp; omega)) (by first | omega | (simp; omega)) (by first | omega | (simp; done) | (simp; omega)) ?_; intro v3 w3 ho3 hg3 hl3; have hb3 : Below w.heap.size w w3 := Below.grown (by repeat (first | with_reducible exact Below.refl _ _ | with_reducible assumption | with_reducible refine Below.alloc ?_ (by first | omega | (simp; done) | (simp; omega)) _ | with_reducible refine Below.setCell ?_ (by first | omega | (simp; done) | (simp; omega)) _ | with_reducible refine Below.drew ?_ | with_reducible refine below_drewN ?_ _ | with_reducible refine Below.next ?_ (by with_reducible assumption))) hg3 (by first | omega | (simp; done) | (simp; omega)) (fun q hq => (ho2.lt q hq).1)))
        all_goals go_wp2_with fail
        all_goals go_ret
        all_goals exact WithPost.mk ho3 hb (by omega) hpost.out hb3
end Go.Proofs.YtdblhmpcilihnaaGreat
