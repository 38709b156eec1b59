/- delay.After: a range over a function, by a walk. -/
import Derived.RangeFuncNested
import Derived.RangeFuncBound
import Derived.RangeFuncCalls
import Derived.RangeFuncLeaves
import Derived.Shelf.Abstract
import Derived.Shelf.RegionOpen
import Derived.WalkKit
import Derived.OwnWalkIn
import Derived.TacticsInMore
import Derived.LoopNIn
import Derived.LoopIn
import Derived.Test.YtdblhmpcilihnaaGreatTT
import Derived.Test.YtdblhmpcilihnaaGreatConv
namespace Go.Proofs.YtdblhmpcilihnaaGreat
open Go.RowKit Go.Shelf E
set_option linter.unusedVariables false
set_option linter.unusedSimpArgs false
attribute [local go_sem] Oper.semAt_some
theorem calls_of_pure {P : Program} {g : FuncId} {args : List AV} {vs : Array Value} {w : World} {v : Value} (h : E.Pure P g args (.val v)) (hr : Rs 0 (fun _ => none) (fun b => b < w.heap.size) w args vs) :
    Calls P g vs w fun e w' => e = .returned v ∧ Below w.heap.size w w' := by
  have hno : ∀ b, ¬ Live (fun _ => none) ⟨0, []⟩ b := fun b ⟨id, blk, o, hg, _⟩ => by simp [Hp.get, E.blkOf_nil, E.blkOf_cons] at hg
  refine (h.run.run (fun _ => none) (fun b => b < w.heap.size) w vs ⟨fun id blk hg => by simp [Hp.get, E.blkOf_nil, E.blkOf_cons] at hg, fun id id' blk blk' b o o' hg => by simp [Hp.get, E.blkOf_nil, E.blkOf_cons] at hg, fun _ h => h⟩ hr).mono ?_
  rintro e w' ⟨v, rfl, x, σ', F', H', rfl, hx, hw', hr'⟩
  cases hr'
  exact ⟨rfl, hx.os, hx.tape, hx.out, hx.heap, fun k hk => hx.same k hk (hno k)⟩
abbrev polV (p : Policy) : Array Value := #[.bool p.always, .int .i64 p.limit, .int .i64 p.window, .int .i64 p.base, .int .i64 p.most]
theorem dlyN_40 (p : Policy) (hp : p.ok) : dlyN p 40 = p.most := by
  have key : ∀ j : Nat, min (2 ^ j) p.most ≤ dlyN p j := fun j => by
    induction j with
    | zero => have := dlyN_le p hp 0; simp; omega
    | succ j ih =>
      have h1 := dlyN_le p hp j
      have : dlyN p (j + 1) = min (2 * dlyN p j) p.most := rfl
      rw [this, Int.pow_succ]
      omega
  have h1 := key 40
  have h2 := dlyN_le p hp 40
  have h3 := hp.2.2.1
  unfold inR at h3
  have : (2 : Int) ^ 40 = 1099511627776 := by decide
  omega
def numOf : Value → Nat
  | .int _ n => n.toNat
  | _ => 0
abbrev kpD (Bn : Nat) (A B : World) : Prop := B.cell? ⟨Bn, 4, none⟩ = A.cell? ⟨Bn, 4, none⟩
abbrev encD (p : Policy) (j : Nat) : Array Value := #[.int .i64 ((j : Int) + 1), .int .i64 (dlyN p j)]
set_option maxRecDepth 100000 in
set_option maxHeartbeats 1000000 in
theorem delays1_in (F : Fence) (n : Nat) (hf : F.fn 243) (hro : F.round = none) (hn : 1 ≤ n) (l Bn : Nat) (p : Policy) (hp : p.ok) (J Jx : List Nat → World → Prop)
    (hY : ∀ pre x W, J pre W → pre.length < 41 → YieldAt F (n - 1) Tryz.prog l (encD p x) W fun e W' =>
      (e = .returned (.bool true) ∧ J (pre ++ [x]) W' ∧ kpD Bn W W') ∨ (e = .returned (.bool false) ∧ Jx (pre ++ [x]) W'))
    (W : World) (hb3 : W.cell? ⟨Bn, 3, none⟩ = some (.int .i64 p.base)) (hb4 : W.cell? ⟨Bn, 4, none⟩ = some (.int .i64 p.most)) (h0 : J [] W) :
    CallsIn F n Tryz.prog 243 #[.func (.yield l) #[] #[], .pointer (some ⟨Bn, 0, none⟩)] W fun e W' => (∃ v, e = .returned v) ∧
      ((∃ ys, (∃ m, ys = List.range (m + 1) ∧ dlyN p m = p.most) ∧ J ys W') ∨ (∃ pre, (∃ m, pre = List.range (m + 1)) ∧ Jx pre W')) := by
  refine callsIn_of_wp Tryz.func243 rfl hf ?_ hro
  simp only [Tryz.ntmps243, List.size_toArray, List.length_cons, List.length_nil, Nat.reduceAdd, Nat.reduceSub, Array.replicate_succ, Array.replicate_zero, List.push_toArray, List.append_toArray, List.nil_append, List.cons_append]
  gi_wp2
  gi_loopw [3, 4] (fun d k wr => ∃ m : Nat, d = .int .i64 (dlyN p m) ∧ k = .int .i64 ((m : Int) + 1) ∧ m ≤ 40 ∧ J (List.range m) wr ∧ wr.cell? ⟨Bn, 4, none⟩ = some (.int .i64 p.most))
    (fun d k wr => 42 - numOf k)
  case atStart => exact ⟨0, rfl, rfl, by omega, h0, hb4⟩
  case round =>
    obtain ⟨m, rfl, rfl, hm, hJ, h4⟩ := hrel
    obtain ⟨fn, tmps, assign, body, hy, hR⟩ := hY (List.range m) m wr hJ (by simp; omega)
    have hd := dlyN_le p hp m
    have hmost := hp.2.2.1
    unfold inR at hmost
    have e2 : IntKind.i64.wrap (2 * dlyN p m) = 2 * dlyN p m := wrap_id (by omega) (by omega)
    have e1 : IntKind.i64.wrap ((m : Int) + 1 + 1) = ((m + 1 : Nat) : Int) + 1 := by rw [wrap_id (by omega) (by omega)]; omega
    gi_wp2
    refine hR.mono ?_
    rintro e W3 (⟨rfl, hJ3, hk3⟩ | ⟨rfl, hJx3⟩)
    · have h43 : W3.cell? ⟨Bn, 4, none⟩ = some (.int .i64 p.most) := hk3.trans h4
      by_cases c : dlyN p m = p.most
      · have hc : (dlyN p m == p.most) = true := by simp [c]
        gi_wp2
        all_goals first
          | (refine bodyPost_ret (results_none rfl _ _ _) rfl ?_
             exact ⟨⟨_, rfl⟩, .inl ⟨List.range (m + 1), ⟨m, rfl, c⟩, by rw [List.range_succ]; exact hJ3⟩⟩)
          | trace_state
      · have hc : (dlyN p m == p.most) = false := by simp [c]
        have hm40 : m ≠ 40 := fun e => c (by rw [e]; exact dlyN_40 p hp)
        gi_wp2
        refine ⟨⟨m + 1, congrArg (Value.int IntKind.i64) ?_, congrArg (Value.int IntKind.i64) (by omega), by omega, by rw [List.range_succ]; exact hJ3, h43⟩, by simp only [numOf]; omega⟩
        show _ = min (2 * dlyN p m) p.most
        split <;> omega
    · gi_wp2
      refine bodyPost_ret (results_none rfl _ _ _) rfl ?_
      exact ⟨⟨_, rfl⟩, .inr ⟨List.range (m + 1), ⟨m, rfl⟩, by rw [List.range_succ]; exact hJx3⟩⟩
set_option maxRecDepth 100000 in
set_option maxHeartbeats 1000000 in
theorem delays_in (F : Fence) (n : Nat) (hf : F.fn 231) (hro : F.round = none) (p : Policy) (w : World) :
    CallsIn F n Tryz.prog 231 #[.agg (polV p)] w fun e w' => e = .returned (.func (.func 243) #[] #[.pointer (some ⟨w.heap.size, 0, none⟩)]) ∧ w' = w.alloc (.cells (polV p) 109) := by
  refine callsIn_of_wp Tryz.func231 rfl hf ?_ hro
  simp only [Tryz.ntmps231, List.size_toArray, List.length_cons, List.length_nil, Nat.reduceAdd, Nat.reduceSub, Array.replicate_succ, Array.replicate_zero, List.push_toArray, List.append_toArray, List.nil_append, List.cons_append]
  gi_wp2
  go_ret
  exact ⟨rfl, rfl⟩
def outD (p : Policy) (pre : List Nat) : Int := match pre.getLast? with
  | none => p.base
  | some j => dlyN p j
theorem cellA {W : World} {a : Addr} {v : Value} (o : Obj) (h : W.cell? a = some v) : (W.alloc o).cell? a = some v := cell_kept h (World.grownBy_alloc W o none) (fun r e => by cases e)
theorem frozA {W : World} {a : Addr} {v : Value} (o : Obj) (h : W.cell? a = some v) (hf : W.frozen? a = false) : (W.alloc o).frozen? a = false := (frozen_kept h (World.grownBy_alloc W o none) (fun r e => by cases e)).trans hf
theorem cellB {W : World} {B : Nat} {v : Value} {t : TypeId} (h : W.heap[B]? = some (.cells #[v] t (0, 0))) : W.cell? ⟨B, 0, none⟩ = some v ∧ W.frozen? ⟨B, 0, none⟩ = false := by
  constructor <;> simp [World.cell?, World.frozen?, h]
theorem cellP {W : World} {b : Nat} {p : Policy} {t : TypeId} (h : W.heap[b]? = some (.cells (polV p) t (0, 0))) : W.cell? ⟨b, 3, none⟩ = some (.int .i64 p.base) ∧ W.cell? ⟨b, 4, none⟩ = some (.int .i64 p.most) := by
  constructor <;> simp [World.cell?, h]
theorem cellN (W : World) (v : Value) (t : TypeId) : (W.alloc (.cells #[v] t)).cell? ⟨W.heap.size, 0, none⟩ = some v ∧ (W.alloc (.cells #[v] t)).frozen? ⟨W.heap.size, 0, none⟩ = false := cellB (World.alloc_heap_new W _)
theorem outD_snoc (p : Policy) (pre : List Nat) (j : Nat) : outD p (pre ++ [j]) = dlyN p j := by simp [outD]
theorem rs_pol (p : Policy) (w : World) : Rs 0 (fun _ => none) (fun b => b < w.heap.size) w [p.av] #[.agg (polV p)] := by
  refine ars_cons (vs := []) ?_ ars_nil
  refine .agg _ _ rfl fun i x hx => ?_
  match i, hx with
  | 0, hx => simp at hx; subst hx; exact .val _
  | 1, hx => simp at hx; subst hx; exact .val _
  | 2, hx => simp at hx; subst hx; exact .val _
  | 3, hx => simp at hx; subst hx; exact .val _
  | 4, hx => simp at hx; subst hx; exact .val _
theorem delayCheck_any (p : Policy) (hp : p.ok) (w : World) : Calls Tryz.prog 129 #[.agg (polV p)] w fun e w' => e = .returned (.int .i64 0) ∧ Below w.heap.size w w' :=
  calls_of_pure (by have := delay_p p; rwa [eUn_y hp] at this) (rs_pol p w)
set_option maxRecDepth 100000 in
set_option maxHeartbeats 4000000 in
theorem after_any (p : Policy) (hp : p.ok) (k : Nat) (hk : k ≤ 8) (w : World) :
    Calls Tryz.prog 224 #[.agg (polV p), .int .i64 (k : Int)] w fun e w' => e = .returned (.tuple #[.int .i64 (dlyS p k), .int .i64 0]) ∧ Below w.heap.size w w' := by
  refine (callsIn_wide (n := 5)).1 ?_
  refine callsIn_of_wp_marks Tryz.func224 rfl trivial ?_ rfl
  simp only [Tryz.ntmps224, List.size_toArray, List.length_cons, List.length_nil, Nat.reduceAdd, Nat.reduceSub, Array.replicate_succ, Array.replicate_zero, List.push_toArray, List.append_toArray, List.nil_append, List.cons_append]
  gi_wp2_with fail
  refine ⟨trivial, callsIn_wide.2 ((delayCheck_any p hp _).mono ?_)⟩
  rintro e W ⟨rfl, hB⟩
  simp only [World.size_alloc] at hB
  have hsz := hB.size
  have b0 : W.heap[w.heap.size]? = some (.cells (polV p) 109 (0, 0)) := (hB.block _ (by omega)).trans ((Below.heap_alloc _ _ _ (by simp)).trans (World.alloc_heap_new w _))
  have b1 : W.heap[w.heap.size + 1]? = some (.cells #[.int .i64 (k : Int)] 3 (0, 0)) := (hB.block _ (by omega)).trans (by have := World.alloc_heap_new (w.alloc (.cells (polV p) 109)) (.cells #[.int .i64 (k : Int)] 3); rwa [World.size_alloc] at this)
  have hBw : Below w.heap.size w W := ((((Below.refl _ w).alloc (Nat.le_refl _) _).alloc (by simp) _).trans (hB.mono (by omega)))
  have n0 : ¬ ((k : Int) < 0) := by omega
  have c0 : W.cell? ⟨w.heap.size, 0, none⟩ = some (.bool p.always) := by simp [World.cell?, b0]
  have c1 : W.cell? ⟨w.heap.size, 1, none⟩ = some (.int .i64 p.limit) := by simp [World.cell?, b0]
  have c2 : W.cell? ⟨w.heap.size, 2, none⟩ = some (.int .i64 p.window) := by simp [World.cell?, b0]
  have c3 : W.cell? ⟨w.heap.size, 3, none⟩ = some (.int .i64 p.base) := by simp [World.cell?, b0]
  have c4 : W.cell? ⟨w.heap.size, 4, none⟩ = some (.int .i64 p.most) := by simp [World.cell?, b0]
  have ck : W.cell? ⟨w.heap.size + 1, 0, none⟩ = some (.int .i64 (k : Int)) := by simp [World.cell?, b1]
  have hN := cellN W (.int .i64 p.base) 3
  have d0 := cellA (.cells #[.int .i64 p.base] 3) c0
  have d1 := cellA (.cells #[.int .i64 p.base] 3) c1
  have d2 := cellA (.cells #[.int .i64 p.base] 3) c2
  have d3 := cellA (.cells #[.int .i64 p.base] 3) c3
  have d4 := cellA (.cells #[.int .i64 p.base] 3) c4
  have dk := cellA (.cells #[.int .i64 p.base] 3) ck
  gi_wp2_with fail
  refine ⟨trivial, (delays_in Fence.wide _ trivial rfl p _).mono ?_⟩
  rintro e w' ⟨rfl, rfl⟩
  gi_wp2_with fail
  have hsW : w.heap.size + 2 ≤ W.heap.size := by simpa using hsz
  obtain ⟨V, hV⟩ : ∃ V, V = W.alloc (.cells #[.int .i64 p.base] 3) := ⟨_, rfl⟩
  have hVs : V.heap.size = W.heap.size + 1 := by rw [hV]; simp
  rw [← hV] at d0 d1 d2 d3 d4 dk hN ⊢
  have hBV : Below w.heap.size w V := by rw [hV]; exact hBw.alloc (by omega) _
  have hpb : (V.alloc (.cells (polV p) 109)).heap[V.heap.size]? = some (.cells (polV p) 109 (0, 0)) := World.alloc_heap_new V _
  rw [hVs] at hpb
  obtain ⟨q3, q4⟩ := cellP hpb
  have hBZ : Below w.heap.size w (V.alloc (.cells (polV p) 109)) := hBV.alloc (by omega) _
  have zk := cellA (.cells (polV p) 109) dk
  have zo := cellA (.cells (polV p) 109) hN.1
  have zf := frozA (.cells (polV p) 109) hN.1 hN.2
  have hZs : (V.alloc (.cells (polV p) 109)).heap.size = W.heap.size + 2 := by simp [hVs]
  generalize (V.alloc (.cells (polV p) 109)) = Z at *
  refine wpIn_rangeFunc_ownF rfl (by decide) (gf := 243) (lb := #[.pointer (some ⟨W.heap.size + 1, 0, none⟩)]) rfl trivial (enters_of Tryz.func243 (by kernel_rfl) rfl)
    (encs := encD p) (Kp := kpD (W.heap.size + 1)) (S := fun ys => ∃ m, ys = List.range (m + 1) ∧ dlyN p m = p.most) (Sp := fun pre => ∃ m, pre = List.range (m + 1)) (N := 41) (w0 := Z)
    (fun l J Jx W' hW' _ _ hY h0 => delays1_in Fence.wide _ trivial rfl (by decide) l (W.heap.size + 1) p hp J Jx hY W' ((hW'.cell (p := ⟨W.heap.size + 1, 3, none⟩) (by simp; omega)).trans q3) ((hW'.cell (p := ⟨W.heap.size + 1, 4, none⟩) (by simp; omega)).trans q4) h0)
    (fun h h' => Eq.trans h' h) (fun W' l o o' hl h _ _ => World.cell?_of_block (World.putObj_heap_other (by simp; omega))) (Below.refl _ _) (fun _ => rfl)
    (fun pre W' => ((∀ j ∈ pre, (j : Int) + 1 ≤ max (k : Int) 1) ∧ W'.cell? ⟨W.heap.size, 0, none⟩ = some (.int .i64 (outD p pre)) ∧ W'.frozen? ⟨W.heap.size, 0, none⟩ = false ∧ W'.cell? ⟨w.heap.size + 1, 0, none⟩ = some (.int .i64 (k : Int))) ∧ Below w.heap.size w W')
    (fun c pre W' => (c = .exit 0 ∧ ∃ (q : List Nat) (j : Nat), pre = q ++ [j] ∧ max (k : Int) 1 < (j : Int) + 1 ∧ (∀ i ∈ q, (i : Int) + 1 ≤ max (k : Int) 1) ∧ W'.cell? ⟨W.heap.size, 0, none⟩ = some (.int .i64 (outD p q))) ∧ Below w.heap.size w W')
    (OwnFrom.and (Own.from (fun s A B row hs hg hr => ⟨hs.1, cell_kept hs.2.1 hg hr, (frozen_kept hs.2.1 hg hr).trans hs.2.2.1, cell_kept hs.2.2.2 hg hr⟩) _) (ownFrom_below (Nat.le_refl _) (by omega)))
    (fun c => OwnFrom.and (Own.from (fun s A B row hs hg hr => by obtain ⟨h1, q, j, h2, h3, h4, h5⟩ := hs; exact ⟨h1, q, j, h2, h3, h4, cell_kept h5 hg hr⟩) _) (ownFrom_below (Nat.le_refl _) (by omega)))
    ⟨⟨by simp, zo, zf, zk⟩, hBZ⟩
    (fun x => { tmps := #[.agg (polV p), .int .i64 (k : Int), .pointer (some ⟨w.heap.size, 0, none⟩), .pointer (some ⟨w.heap.size + 1, 0, none⟩), .int .i64 0, .int .i64 0, .int .i64 0, .pointer (some ⟨W.heap.size, 0, none⟩), .int .i64 ((x : Int) + 1), .int .i64 (dlyN p x), .agg (polV p), .int .i64 0, .int .i64 0, .bool false, undef, .int .i64 (k : Int), .bool (decide ((k : Int) < 0)), .pointer (some ⟨w.heap.size, 3, none⟩), .int .i64 p.base, .agg (polV p), .func (.func 243) #[] #[.pointer (some ⟨W.heap.size + 1, 0, none⟩)], .int .i64 ((x : Int) + 1), .int .i64 (dlyN p x), undef, undef, undef, undef, undef, undef], defers := [] }) ?assign ?body ?done ?stop
  case assign =>
    intro l x W' K hK
    gi_wp2
    exact hK
  case body =>
    rintro l pre x W' ⟨⟨hp1, hc, hf, hk'⟩, hb⟩ _
    have hmx : max (k : Int) 1 = if (k : Int) < 1 then 1 else (k : Int) := by split <;> omega
    gi_wp2
    all_goals first
      | exact ⟨KeepsOthers.refl _, ⟨rfl, pre, x, rfl, by omega, fun j hj => by have := hp1 j hj; omega, hc⟩, hb⟩
      | exact ⟨KeepsOthers.setCell _ _ _, World.cell?_setCell_other _ _ _ _ (by simp), ⟨fun j hj => (List.mem_append.1 hj).elim (fun hj => by have := hp1 j hj; omega) (fun e => by rw [List.mem_singleton.1 e]; omega), by rw [outD_snoc]; exact World.cell?_setCell_same' _ _ _ (by rw [hc]; rfl), by rw [World.frozen?_setCell]; exact hf, (World.cell?_setCell_other _ _ _ _ (by simp)).trans hk'⟩, hb.setCell (p := ⟨W.heap.size, 0, none⟩) (by simp; omega) _⟩
      | skip
    all_goals exact ⟨KeepsOthers.setCell _ _ _, World.cell?_setCell_other _ _ _ _ (by simp), ⟨fun j hj => (List.mem_append.1 hj).elim (fun hj => by have := hp1 j hj; omega) (fun e => by rw [List.mem_singleton.1 e]; omega), by rw [outD_snoc]; exact World.cell?_setCell_same' _ _ _ (by rw [hc]; rfl), by rw [World.frozen?_setCell]; exact hf, (World.cell?_setCell_other _ _ _ _ (by simp)).trans hk'⟩, hb.setCell (p := ⟨W.heap.size, 0, none⟩) (by simp; omega) _⟩
  case done =>
    rintro D ys W' hD ⟨m, rfl, hm⟩ ⟨⟨hp1, hc, hf, hk'⟩, hb⟩ hK
    have hm1 := hp1 m (by simp)
    have ho : outD p (List.range (m + 1)) = dlyS p k := by
      rw [List.range_succ, outD_snoc]
      have := dlyN_sat p hp hm (k - 1 - m)
      unfold dlyS
      rw [hm, ← this]; congr 1; omega
    rw [ho] at hc
    gi_wp2
    refine ⟨by simp, .inl ⟨_, _, rfl, run_takeDeferred hK, ?_⟩⟩
    exact ⟨.tuple #[.int .i64 (dlyS p k), .int .i64 0], by simp [results, Tryz.results224, go_sem], rfl, hb.trans (belowK_b (w := w) (Nat.le_refl _) W' D _ _ (by omega) hK rfl rfl)⟩
  case stop =>
    rintro D c pre W' hD ⟨m, rfl⟩ ⟨⟨rfl, q, j, h2, h3, h4, h5⟩, hb⟩ hK
    rw [List.range_succ] at h2
    obtain ⟨rfl, h6⟩ := List.append_inj' h2 rfl
    obtain rfl : m = j := by simpa using h6
    have ho : outD p (List.range m) = dlyS p k := by
      have h7 := h4 (m - 1)
      cases m with
      | zero => omega
      | succ m =>
        have := h4 m (by simp)
        rw [List.range_succ, outD_snoc]
        unfold dlyS; congr 1; omega
    rw [ho] at h5
    gi_wp2
    refine ⟨by simp, .inl ⟨_, _, rfl, run_takeDeferred hK, ?_⟩⟩
    exact ⟨.tuple #[.int .i64 (dlyS p k), .int .i64 0], by simp [results, Tryz.results224, go_sem], rfl, hb.trans (belowK_b (w := w) (Nat.le_refl _) W' D _ _ (by omega) hK rfl rfl)⟩
theorem pol_eq {N : Nat} {σ : Sg} {F : Nat → Prop} {w : World} {p : Policy} {v : Value} (h : AR N σ F w p.av v) : v = .agg (polV p) := by
  obtain ⟨vs, rfl, hl, hc⟩ := agg_cells (l := [.val (.bool p.always), .val (.int .i64 p.limit), .val (.int .i64 p.window), .val (.int .i64 p.base), .val (.int .i64 p.most)]) h
  have e0 := val_eq (hc 0 _ rfl)
  have e1 := val_eq (hc 1 _ rfl)
  have e2 := val_eq (hc 2 _ rfl)
  have e3 := val_eq (hc 3 _ rfl)
  have e4 := val_eq (hc 4 _ rfl)
  congr 1
  have key : ∀ (i : Nat) (h1 : i < vs.size) (u : Value), vs.getD i undef = u → vs[i] = u := fun i h1 u hu => by rw [← hu]; simp [Array.getD_eq_getD_getElem?, h1]
  have hl5 : vs.size = 5 := hl
  refine Array.ext (by simpa using hl) fun i h1 h2 => ?_
  match i, h1 with
  | 0, h1 => exact key 0 h1 _ e0
  | 1, h1 => exact key 1 h1 _ e1
  | 2, h1 => exact key 2 h1 _ e2
  | 3, h1 => exact key 3 h1 _ e3
  | 4, h1 => exact key 4 h1 _ e4
  | i + 5, h1 => omega
theorem after_p : AfterP 224 := fun p n hp hn =>
  pure_of_calls Tryz.f224 Tryz.func224 rfl rfl rfl rfl fun F w vs hF hr => by
    have h0 := pol_eq (hr.2 0 _ rfl)
    have h1 := val_eq (hr.2 1 _ rfl)
    have hvs : vs = #[.agg (polV p), .int .i64 (n : Int)] := by
      have hs : vs.size = 2 := hr.1
      refine Array.ext (by simpa using hs) fun i h2 h3 => ?_
      match i, h2 with
      | 0, h2 => exact (by simp [Array.getD_eq_getD_getElem?, h2] : vs[0] = vs.getD 0 undef).trans h0
      | 1, h2 => exact (by simp [Array.getD_eq_getD_getElem?, h2] : vs[1] = vs.getD 1 undef).trans h1
      | i + 2, h2 => omega
    subst hvs
    refine (after_any p hp n hn w).mono ?_
    rintro e w' ⟨rfl, hB⟩
    refine ⟨_, rfl, hB, .tup _ _ rfl fun i x hx => ?_⟩
    match i, hx with
    | 0, hx => simp at hx; subst hx; exact .val _
    | 1, hx => simp at hx; subst hx; exact .val _
theorem taskExit_p (t : Task) (p : Policy) (stop : Bool) (code tick : Int) (hs : 0 ≤ t.state) : Pure Tryz.prog 170 [t.av, p.av, B stop, I code, I tick] (resT (exitT t p stop code tick)) := taskExit_q t p stop code tick after_p hs
end Go.Proofs.YtdblhmpcilihnaaGreat
