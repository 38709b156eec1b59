/- Resources, configurations, policies: the tests of the program and of the reference. The program's tests of policies, ports, specifications and configurations; the reference's. Ports, specifications: the tests of the program and of the reference. spec.Check: printed by gen_spec.py. -/
import Derived.Test.YtdblhmpcilihnaaGreatEE
import Derived.Test.YtdblhmpcilihnaaGreatPortsPure
namespace Go.Proofs.YtdblhmpcilihnaaGreat
open Go.RowKit E
set_option maxRecDepth 100000
set_option linter.unusedVariables false
set_option linter.unusedSimpArgs false
def inR (n lo hi : Int) : Prop := lo ≤ n ∧ n ≤ hi
instance (n lo hi : Int) : Decidable (inR n lo hi) := by unfold inR; infer_instance
def Res.ok (r : Res) : Prop := inR r.cpu 0 1099511627776 ∧ inR r.mem 0 1099511627776 ∧ inR r.disk 0 1099511627776
instance (r : Res) : Decidable r.ok := by unfold Res.ok; infer_instance
theorem wrap_id {n : Int} (h : -9223372036854775808 ≤ n) (h' : n ≤ 9223372036854775807) : IntKind.i64.wrap n = n := by
  unfold IntKind.wrap IntKind.signed IntKind.bits; simp; omega
/-- An error's number, unless a condition holds. -/
def eUn (c : Prop) [Decidable c] (e : Int) : Int := if c then 0 else e
theorem eUn_y {c : Prop} [Decidable c] {e : Int} (h : c) : eUn c e = 0 := if_pos h
theorem eUn_n {c : Prop} [Decidable c] {e : Int} (h : ¬ c) : eUn c e = e := if_neg h
theorem eUn_z {c : Prop} [Decidable c] : (eUn c 3 = 0) = c := by unfold eUn; by_cases h : c <;> simp [h]
def sl3 (a b c : Int) : AV := .sl 1 3 fun i => [.val (.int .i64 ([a, b, c].getD i 0))]
theorem amounts09_p (r : Res) : Pure Tryz.prog 188 [r.av] (.sl 1 3 fun i => [.val (.int .i64 ([r.cpu, r.mem, r.disk].getD i 0))]) := by
  refine Pure.ev Tryz.f188 mx Tryz.func188 (by kernel_rfl) rfl rfl rfl ?_ <;> (refine goS ?_ <;> repeat (intro _ <;> refine goS ?_))
  exact ret_fsl rfl (fun _ => rfl) rfl fun i hi => by
    match i, hi with
    | 0, _ => rfl
    | 1, _ => rfl
    | 2, _ => rfl
theorem amounts_p (r : Res) : Pure Tryz.prog 183 [r.av] (.agg [I r.cpu, I r.mem, I r.disk]) := by
  refine Pure.ev Tryz.f183 mx Tryz.func183 (by kernel_rfl) rfl rfl rfl ?_ <;> (refine goS ?_ <;> repeat (intro _ <;> refine goS ?_))
  exact ret_now _ rfl
theorem back_p (a b c : Int) : Pure Tryz.prog 184 [.agg [I a, I b, I c]] (Res.av ⟨a, b, c⟩) := by
  refine Pure.ev Tryz.f184 mx Tryz.func184 (by kernel_rfl) rfl rfl rfl ?_ <;> (refine goS ?_ <;> repeat (intro _ <;> refine goS ?_))
  exact ret_now _ rfl
theorem check09_p (r : Res) : Pure Tryz.prog 136 [r.av] (I (eUn r.ok 3)) := by
  refine Pure.ev Tryz.f136 mx Tryz.func136 (by kernel_rfl) rfl rfl rfl ?_ <;> (refine goS ?_ <;> repeat (intro _ <;> refine goS ?_))
  refine Pure.call (amounts09_p r) ?_ <;> (refine goS ?_ <;> repeat (intro _ <;> refine goS ?_))
  refine loop_u 4 ?_
  (refine goS ?_ <;> repeat (intro _ <;> refine goS ?_))
  repeat' (refine onB_mk (fun h => ?_) (fun h => ?_) <;> (try rw [h]) <;> (try simp [-List.getD_eq_getElem?_getD, wl, List.getD_cons_zero, List.getD_cons_succ] at h) <;> (refine goS ?_ <;> repeat (intro _ <;> refine goS ?_)))
  all_goals (refine ret_now _ ?_)
  all_goals first
    | (rw [eUn_y (by unfold Res.ok inR; omega)])
    | (rw [eUn_n (by unfold Res.ok inR; omega)])
theorem resCheck_p (r : Res) : Pure Tryz.prog 112 [r.av] (I (eUn r.ok 3)) := by
  refine Pure.ev Tryz.f112 mx Tryz.func112 (by kernel_rfl) rfl rfl rfl ?_ <;> (refine goS ?_ <;> repeat (intro _ <;> refine goS ?_))
  refine Pure.call (amounts_p r) ?_ <;> (refine goS ?_ <;> repeat (intro _ <;> refine goS ?_))
  refine loop_u 4 ?_
  (refine goS ?_ <;> repeat (intro _ <;> refine goS ?_))
  repeat' (refine onB_mk (fun h => ?_) (fun h => ?_) <;> (try rw [h]) <;> (try simp [-List.getD_eq_getElem?_getD, wl, List.getD_cons_zero, List.getD_cons_succ] at h) <;> (refine goS ?_ <;> repeat (intro _ <;> refine goS ?_)))
  all_goals (refine ret_now _ ?_)
  all_goals first
    | (rw [eUn_y (by unfold Res.ok inR; omega)])
    | (rw [eUn_n (by unfold Res.ok inR; omega)])
theorem specIn_p (n lo hi : Int) : Pure Tryz.prog 114 [I n, I lo, I hi] (I (eUn (inR n lo hi) 3)) := by
  refine Pure.ev Tryz.f114 mx Tryz.func114 (by kernel_rfl) rfl rfl rfl ?_ <;> (refine goS ?_ <;> repeat (intro _ <;> refine goS ?_))
  repeat' (refine onB_mk (fun h => ?_) (fun h => ?_) <;> (try rw [h]) <;> (try simp [-List.getD_eq_getElem?_getD, wl, List.getD_cons_zero, List.getD_cons_succ] at h) <;> (refine goS ?_ <;> repeat (intro _ <;> refine goS ?_)))
  all_goals (refine ret_now _ ?_)
  all_goals first
    | (rw [eUn_y (by unfold inR; omega)])
    | (rw [eUn_n (by unfold inR; omega)])
theorem from13_p (n lo hi : Int) : Pure Tryz.prog 137 [I n, I lo, I hi] (B (decide (inR n lo hi))) := by
  refine Pure.ev Tryz.f137 mx Tryz.func137 (by kernel_rfl) rfl rfl rfl ?_ <;> (refine goS ?_ <;> repeat (intro _ <;> refine goS ?_))
  repeat' (refine onB_mk (fun h => ?_) (fun h => ?_) <;> (try rw [h]) <;> (try simp [-List.getD_eq_getElem?_getD, wl, List.getD_cons_zero, List.getD_cons_succ] at h) <;> (refine goS ?_ <;> repeat (intro _ <;> refine goS ?_)))
  all_goals (refine ret_now _ ?_; congr 2; rw [Bool.eq_iff_iff]; simp only [decide_eq_true_eq]; unfold inR; (try simp); omega)
theorem from20_p (n lo hi : Int) : Pure Tryz.prog 64 [I n, I lo, I hi] (B (decide (inR n lo hi))) := by
  refine Pure.ev Tryz.f64 mx Tryz.func64 (by kernel_rfl) rfl rfl rfl ?_ <;> (refine goS ?_ <;> repeat (intro _ <;> refine goS ?_))
  repeat' (refine onB_mk (fun h => ?_) (fun h => ?_) <;> (try rw [h]) <;> (try simp [-List.getD_eq_getElem?_getD, wl, List.getD_cons_zero, List.getD_cons_succ] at h) <;> (refine goS ?_ <;> repeat (intro _ <;> refine goS ?_)))
  all_goals (refine ret_now _ ?_; congr 2; rw [Bool.eq_iff_iff]; simp only [decide_eq_true_eq]; unfold inR; (try simp); omega)
def needF (n : Int) : Int := if inR n 1 8 then 16 * (n + 1) else 0
theorem need_p (n : Int) : Pure Tryz.prog 116 [I n] (I (needF n)) := by
  refine Pure.ev Tryz.f116 mx Tryz.func116 (by kernel_rfl) rfl rfl rfl ?_ <;> (refine goS ?_ <;> repeat (intro _ <;> refine goS ?_))
  repeat' (refine onB_mk (fun h => ?_) (fun h => ?_) <;> (try rw [h]) <;> (try simp [-List.getD_eq_getElem?_getD, wl, List.getD_cons_zero, List.getD_cons_succ] at h) <;> (refine goS ?_ <;> repeat (intro _ <;> refine goS ?_)))
  all_goals (refine ret_now _ ?_)
  all_goals (congr 2; unfold needF; by_cases hc : inR n 1 8 <;> (first | rw [if_pos hc] | rw [if_neg hc]) <;> (unfold inR at hc))
  all_goals (first | omega | (exfalso; omega) | (rw [wrap_id (show _ ≤ n + 1 by omega) (by omega), wrap_id (by omega) (by omega)]))
theorem need13_p (n : Int) : Pure Tryz.prog 138 [I n] (I (needF n)) := by
  refine Pure.ev Tryz.f138 mx Tryz.func138 (by kernel_rfl) rfl rfl rfl ?_ <;> (refine goS ?_ <;> repeat (intro _ <;> refine goS ?_))
  refine Pure.call (from13_p _ _ _) ?_ <;> (refine goS ?_ <;> repeat (intro _ <;> refine goS ?_))
  repeat' (refine onB_mk (fun h => ?_) (fun h => ?_) <;> (try rw [h]) <;> (try simp [-List.getD_eq_getElem?_getD, wl, List.getD_cons_zero, List.getD_cons_succ] at h) <;> (refine goS ?_ <;> repeat (intro _ <;> refine goS ?_)))
  all_goals (refine ret_now _ ?_)
  all_goals (congr 2; unfold needF; by_cases hc : inR n 1 8 <;> (first | rw [if_pos hc] | rw [if_neg hc]) <;> (unfold inR at *))
  all_goals (first | omega | (exfalso; omega) | (rw [wrap_id (show _ ≤ n + 1 by omega) (by omega), wrap_id (by omega) (by omega)]))
def Policy.ok (p : Policy) : Prop := inR p.limit 1 8 ∧ inR p.window 1 1099511627776 ∧ inR p.most 1 1099511627776 ∧ inR p.base 1 p.most
instance (p : Policy) : Decidable p.ok := by unfold Policy.ok; infer_instance
theorem check11_p (p : Policy) : Pure Tryz.prog 174 [p.av] (I (eUn p.ok 3)) := by
  refine Pure.ev Tryz.f174 mx Tryz.func174 (by kernel_rfl) rfl rfl rfl ?_ <;> (refine goS ?_ <;> repeat (intro _ <;> refine goS ?_))
  repeat' (refine onB_mk (fun h => ?_) (fun h => ?_) <;> (try rw [h]) <;> (try simp [-List.getD_eq_getElem?_getD, wl, List.getD_cons_zero, List.getD_cons_succ] at h) <;> (refine goS ?_ <;> repeat (intro _ <;> refine goS ?_)))
  all_goals (refine ret_now _ ?_)
  all_goals first
    | (rw [eUn_y (by unfold Policy.ok inR; omega)])
    | (rw [eUn_n (by unfold Policy.ok inR; omega)])
def Config.ok (c : Config) : Prop := c.cap.ok ∧ inR c.allocs 1 8 ∧ inR c.area (needF c.allocs) 1024 ∧ inR c.files 2 16 ∧ inR c.blocks 1 64 ∧ inR c.beat 1 1099511627776 ∧ inR c.lease 1 1099511627776 ∧ inR c.grace 0 1099511627776 ∧ inR c.wait 0 1099511627776
instance (c : Config) : Decidable c.ok := by unfold Config.ok; infer_instance
theorem config13_p (c : Config) : Pure Tryz.prog 70 [c.av] (I (eUn c.ok 3)) := by
  refine Pure.ev Tryz.f70 mx Tryz.func70 (by kernel_rfl) rfl rfl rfl ?_ <;> (refine goS ?_ <;> repeat (intro _ <;> refine goS ?_))
  (first | refine Pure.call (check09_p c.cap) ?_ | refine HCall.pure (check09_p c.cap) ?_) <;> (refine goS ?_ <;> repeat (intro _ <;> refine goS ?_))
  by_cases h0 : c.cap.ok
  · rw [eUn_y h0]
    (refine goS ?_ <;> repeat (intro _ <;> refine goS ?_))
    repeat' (first
      | (refine onB_mk (fun h => ?_) (fun h => ?_) <;> (try rw [h]) <;> (try simp [-List.getD_eq_getElem?_getD, wl, List.getD_cons_zero, List.getD_cons_succ] at h) <;> (refine goS ?_ <;> repeat (intro _ <;> refine goS ?_)))
      | (refine Pure.call (from13_p _ _ _) ?_ <;> (refine goS ?_ <;> repeat (intro _ <;> refine goS ?_)))
      | (refine Pure.call (need13_p _) ?_ <;> (refine goS ?_ <;> repeat (intro _ <;> refine goS ?_)))
      | (refine HCall.pure (from13_p _ _ _) ?_ <;> (refine goS ?_ <;> repeat (intro _ <;> refine goS ?_)))
      | (refine HCall.pure (need13_p _) ?_ <;> (refine goS ?_ <;> repeat (intro _ <;> refine goS ?_))))
    all_goals (refine ret_now _ ?_)
    all_goals (try simp only [inR] at *)
    all_goals first
      | (rw [eUn_y ⟨h0, by unfold inR; omega, by unfold inR; omega, by unfold inR; omega, by unfold inR; omega, by unfold inR; omega, by unfold inR; omega, by unfold inR; omega, by unfold inR; omega⟩])
      | (rw [eUn_n (by unfold Config.ok inR; omega)])
  · rw [eUn_n h0]
    (refine goS ?_ <;> repeat (intro _ <;> refine goS ?_))
    refine ret_now _ ?_
    rw [eUn_n (fun h => h0 h.1)]
theorem delay_p (p : Policy) : Pure Tryz.prog 129 [p.av] (I (eUn p.ok 3)) := by
  refine Pure.ev Tryz.f129 mx Tryz.func129 (by kernel_rfl) rfl rfl rfl ?_ <;> (refine goS ?_ <;> repeat (intro _ <;> refine goS ?_))
  repeat' (first
    | (refine onB_mk (fun h => ?_) (fun h => ?_) <;> (try rw [h]) <;> (try simp [-List.getD_eq_getElem?_getD, wl, List.getD_cons_zero, List.getD_cons_succ] at h) <;> (refine goS ?_ <;> repeat (intro _ <;> refine goS ?_)))
    | (refine goto_go rfl ?_ <;> (refine goS ?_ <;> repeat (intro _ <;> refine goS ?_))))
  all_goals (refine ret_now _ ?_)
  all_goals first
    | (rw [eUn_y (by unfold Policy.ok inR; omega)])
    | (rw [eUn_n (by unfold Policy.ok inR; omega)])
set_option maxHeartbeats 4000000 in
def cl (f : FuncId) : List AV := [.fn (.func f) [] [.hptr 0 11 0 0]]
def cfgC (c : Config) : Nat → Prop
  | 0 => c.cap.ok
  | 1 => inR c.allocs 1 8
  | 2 => inR c.area (needF c.allocs) 1024
  | 3 => inR c.files 2 16
  | 4 => inR c.blocks 1 64
  | 5 => inR c.beat 1 1099511627776
  | 6 => inR c.lease 1 1099511627776
  | 7 => inR c.grace 0 1099511627776
  | 8 => inR c.wait 0 1099511627776
  | _ => True
theorem cfgC_ok (c : Config) : c.ok ↔ ∀ j, j < 9 → cfgC c j := by
  constructor
  · rintro ⟨h0, h1, h2, h3, h4, h5, h6, h7, h8⟩ j hj
    match j, hj with
    | 0, _ => exact h0
    | 1, _ => exact h1
    | 2, _ => exact h2
    | 3, _ => exact h3
    | 4, _ => exact h4
    | 5, _ => exact h5
    | 6, _ => exact h6
    | 7, _ => exact h7
    | 8, _ => exact h8
  · intro h
    exact ⟨h 0 (by decide), h 1 (by decide), h 2 (by decide), h 3 (by decide), h 4 (by decide), h 5 (by decide), h 6 (by decide), h 7 (by decide), h 8 (by decide)⟩
theorem cfgC_step {c : Config} {k : Nat} (h : ∀ j, j < k → cfgC c j) (hk : cfgC c k) : ∀ j, j < k + 1 → cfgC c j := fun j hj => by
  rcases Nat.lt_succ_iff_lt_or_eq.1 hj with h1 | rfl
  · exact h j h1
  · exact hk
theorem of_z {X : Prop} [Decidable X] (h : eUn X 3 = 0) : X := by rwa [eUn_z] at h
theorem cfg_no {c : Config} {k : Nat} (hc : ∀ j, j < k → cfgC c j) (hk : k < 9) {X : Prop} [Decidable X] (e : X = cfgC c k) (h : ¬ eUn X 3 = 0) : I (eUn X 3) = I (eUn c.ok 3) := by
  rw [eUn_n (fun hx => h (eUn_y hx)), eUn_n (fun ho => h (eUn_y (by rw [e]; exact (cfgC_ok c).1 ho k hk)))]
set_option maxHeartbeats 2000000 in
theorem config_p (c : Config) : Pure Tryz.prog 63 [c.av] (I (eUn c.ok 3)) := by
  refine Pure.ev Tryz.f63 mx Tryz.func63 (by kernel_rfl) rfl rfl rfl ?_ <;> (refine goS ?_ <;> repeat (intro _ <;> refine goS ?_))
  refine ACalls.ev Tryz.f110 mx Tryz.func110 (by kernel_rfl) rfl ?_ <;> (refine goS ?_ <;> repeat (intro _ <;> refine goS ?_))
  refine loop_st (S := Nat) (fun k => [(6, .hsl 1 1 0 9 9 true), (7, I 9), (8, I k)])
    (fun k => ⟨2, [(1, some ⟨1, [cl 111, cl 113, cl 115, cl 117, cl 118, cl 119, cl 120, cl 121, cl 122], none⟩), (0, some ⟨11, [c.fv.map FV.up], none⟩)]⟩)
    (fun k => k ≤ 9 ∧ ∀ j, j < k → cfgC c j) (fun k => 9 - k) 0
    (Wk.cut rfl ⟨⟨rfl, rfl⟩, ⟨rfl, rfl⟩, ⟨rfl, rfl⟩, trivial⟩ ⟨⟨rfl, rfl, fun row hr => by simp [cl] at hr; rcases hr with rfl | rfl | rfl | rfl | rfl | rfl | rfl | rfl | rfl <;> rfl, nofun⟩, ⟨rfl, rfl, row1 rfl, nofun⟩, trivial⟩) ⟨Nat.zero_le _, fun j hj => by omega⟩ ?_
  rintro k ⟨hk, hc⟩
  have hk' : k = 0 ∨ k = 1 ∨ k = 2 ∨ k = 3 ∨ k = 4 ∨ k = 5 ∨ k = 6 ∨ k = 7 ∨ k = 8 ∨ k = 9 := by omega
  rcases hk' with rfl | rfl | rfl | rfl | rfl | rfl | rfl | rfl | rfl | rfl
  all_goals (refine goS ?_ <;> repeat (intro _ <;> refine goS ?_))
  all_goals (repeat' (first
    | ((refine bnS (fun hr h => ?_) (fun hr h => ?_) <;> first | (exact False.elim h) | ((refine goS ?_ <;> repeat (intro _ <;> refine goS ?_)))))
    | ((first | refine Pure.call (specIn_p _ _ _) ?_ | refine HCall.pure (specIn_p _ _ _) ?_) <;> (refine goS ?_ <;> repeat (intro _ <;> refine goS ?_)))
    | ((first | refine Pure.call (need_p _) ?_ | refine HCall.pure (need_p _) ?_) <;> (refine goS ?_ <;> repeat (intro _ <;> refine goS ?_)))
    | ((first | refine Pure.call (resCheck_p _) ?_ | refine HCall.pure (resCheck_p _) ?_) <;> (refine goS ?_ <;> repeat (intro _ <;> refine goS ?_)))
    | (refine ACalls.ev Tryz.f111 mx Tryz.func111 (by kernel_rfl) rfl ?_ <;> (refine goS ?_ <;> repeat (intro _ <;> refine goS ?_)))
    | (refine ACalls.ev Tryz.f113 mx Tryz.func113 (by kernel_rfl) rfl ?_ <;> (refine goS ?_ <;> repeat (intro _ <;> refine goS ?_)))
    | (refine ACalls.ev Tryz.f115 mx Tryz.func115 (by kernel_rfl) rfl ?_ <;> (refine goS ?_ <;> repeat (intro _ <;> refine goS ?_)))
    | (refine ACalls.ev Tryz.f117 mx Tryz.func117 (by kernel_rfl) rfl ?_ <;> (refine goS ?_ <;> repeat (intro _ <;> refine goS ?_)))
    | (refine ACalls.ev Tryz.f118 mx Tryz.func118 (by kernel_rfl) rfl ?_ <;> (refine goS ?_ <;> repeat (intro _ <;> refine goS ?_)))
    | (refine ACalls.ev Tryz.f119 mx Tryz.func119 (by kernel_rfl) rfl ?_ <;> (refine goS ?_ <;> repeat (intro _ <;> refine goS ?_)))
    | (refine ACalls.ev Tryz.f120 mx Tryz.func120 (by kernel_rfl) rfl ?_ <;> (refine goS ?_ <;> repeat (intro _ <;> refine goS ?_)))
    | (refine ACalls.ev Tryz.f121 mx Tryz.func121 (by kernel_rfl) rfl ?_ <;> (refine goS ?_ <;> repeat (intro _ <;> refine goS ?_)))
    | (refine ACalls.ev Tryz.f122 mx Tryz.func122 (by kernel_rfl) rfl ?_ <;> (refine goS ?_ <;> repeat (intro _ <;> refine goS ?_)))
    | (refine ret_now _ ?_ <;> (refine goS ?_ <;> repeat (intro _ <;> refine goS ?_)))))
  all_goals first
    | exact ⟨_, by decide, ⟨by decide, cfgC_step hc (by have h2 := of_z h; exact h2)⟩, Wk.sub ⟨rfl, rfl, rfl, trivial⟩⟩
    | exact cfg_no hc (by decide) rfl h
    | (rw [eUn_y ((cfgC_ok c).2 hc)])
theorem dropAt {l : List Int} {k : Nat} (h : k < l.length) : l.drop k = l.getD k 0 :: l.drop (k + 1) := by
  rw [List.drop_eq_getElem_cons h, List.getD_eq_getElem?_getD, List.getElem?_eq_getElem h]; rfl
theorem chk_cons (b p : Int) (l : List Int) : chk b (p :: l) = if p < 1 ∨ 65535 < p then 3 else if p ≤ b then 13 else chk p l := rfl
theorem toNat_nat (k : Nat) : ((k : Int)).toNat = k := Int.toNat_natCast k
theorem portsCheck_p (l : List Int) : Pure Tryz.prog 126 [slI l] (I (checkF l)) := by
  refine Pure.ev Tryz.f126 mx Tryz.func126 (by kernel_rfl) rfl rfl rfl ?_ <;> (refine goS ?_ <;> repeat (intro _ <;> refine goS ?_))
  (refine bnS (fun hr h => ?_) (fun hr h => ?_) <;> first | (exact False.elim h) | ((refine goS ?_ <;> repeat (intro _ <;> refine goS ?_))))
  · refine ret_now _ ?_
    unfold checkF; rw [if_pos (by omega)]
  · refine loop_st (S := Nat × Int) (fun s => [(9, slI l), (10, I l.length), (11, I s.1), (3, I s.2)]) (fun s => ⟨0, []⟩) (fun s => s.1 ≤ l.length ∧ chk 0 l = chk s.2 (l.drop s.1)) (fun s => l.length - s.1) (0, 0)
      (Wk.sub ⟨rfl, rfl, rfl, rfl, trivial⟩) ⟨Nat.zero_le _, rfl⟩ ?_
    rintro ⟨k, b⟩ ⟨hk, hc⟩
    simp only at hk hc
    have hf : checkF l = chk b (l.drop k) := by unfold checkF; rw [if_neg (by omega), hc]
    rw [hf]
    (refine goS ?_ <;> repeat (intro _ <;> refine goS ?_))
    (refine bnS (fun hr h => ?_) (fun hr h => ?_) <;> first | (exact False.elim h) | ((refine goS ?_ <;> repeat (intro _ <;> refine goS ?_))))
    · rw [dropAt h, chk_cons]
      have hk2 : k < l.length := h
      repeat' ((refine bnS (fun hr h => ?_) (fun hr h => ?_) <;> first | (exact False.elim h) | ((refine goS ?_ <;> repeat (intro _ <;> refine goS ?_)))))
      all_goals (simp only [toNat_nat] at *)
      all_goals first
        | exact ret_now _ (by rw [if_pos (by omega)])
        | exact ret_now _ (by rw [if_neg (by omega), if_pos (by omega)])
        | exact ⟨(k + 1, l.getD k 0), by simp only []; omega, ⟨by simp only []; omega, by rw [hc, dropAt hk2, chk_cons, if_neg (by omega), if_neg (by omega)]⟩, Wk.sub ⟨rfl, rfl, by simp only [← wrapS (show k < 9223372036854775807 by omega)]; rfl, rfl, trivial⟩⟩
    · refine ret_now _ ?_
      rw [List.drop_of_length_le (by omega)]; rfl
def bef (l : List Int) : Nat → Int
  | 0 => 0
  | k + 1 => l.getD k 0
theorem bef_zero (l : List Int) : bef l 0 = 0 := rfl
theorem bef_succ (l : List Int) (k : Nat) : bef l (k + 1) = l.getD k 0 := rfl
theorem refPortsCheck_p (l : List Int) : Pure Tryz.prog 173 [slI l] (I (checkF l)) := by
  refine Pure.ev Tryz.f173 mx Tryz.func173 (by kernel_rfl) rfl rfl rfl ?_ <;> (refine goS ?_ <;> repeat (intro _ <;> refine goS ?_))
  (refine bnS (fun hr h => ?_) (fun hr h => ?_) <;> first | (exact False.elim h) | ((refine goS ?_ <;> repeat (intro _ <;> refine goS ?_))))
  · refine ret_now _ ?_
    unfold checkF; rw [if_pos (by omega)]
  · refine loop_st (S := Nat) (fun k => [(0, slI l), (3, I k)]) (fun s => ⟨0, []⟩) (fun k => k ≤ l.length ∧ chk 0 l = chk (bef l k) (l.drop k)) (fun k => l.length - k) 0
      (Wk.sub ⟨rfl, rfl, trivial⟩) ⟨Nat.zero_le _, rfl⟩ ?_
    rintro k ⟨hk, hc⟩
    have hf : checkF l = chk (bef l k) (l.drop k) := by unfold checkF; rw [if_neg (by omega), hc]
    rw [hf]
    (refine goS ?_ <;> repeat (intro _ <;> refine goS ?_))
    (refine bnS (fun hr h => ?_) (fun hr h => ?_) <;> first | (exact False.elim h) | ((refine goS ?_ <;> repeat (intro _ <;> refine goS ?_))))
    · have hk2 : k < l.length := h
      rw [dropAt h, chk_cons]
      have hnext : ¬ (l.getD k 0 < 1 ∨ 65535 < l.getD k 0) → ¬ (l.getD k 0 ≤ bef l k) → k + 1 ≤ l.length ∧ chk 0 l = chk (bef l (k + 1)) (l.drop (k + 1)) := fun h1 h2 =>
        ⟨hk2, by rw [hc, dropAt hk2, chk_cons, if_neg h1, if_neg h2]; rfl⟩
      cases k with
      | zero =>
        rw [bef_zero] at hnext ⊢
        repeat' ((refine bnS (fun hr h => ?_) (fun hr h => ?_) <;> first | (exact False.elim h) | ((refine goS ?_ <;> repeat (intro _ <;> refine goS ?_)))))
        all_goals (simp only [toNat_nat] at *)
        all_goals first
          | exact ret_now _ (by rw [if_pos (by omega)])
          | exact ⟨1, by omega, hnext (by omega) (by omega), Wk.sub ⟨rfl, rfl, trivial⟩⟩
      | succ k =>
        rw [bef_succ] at hnext ⊢
        repeat' (first
          | ((refine bnS (fun hr h => ?_) (fun hr h => ?_) <;> first | (exact False.elim h) | ((refine goS ?_ <;> repeat (intro _ <;> refine goS ?_)))))
          | (rw [wrapP (n := k + 1) (by omega) (by omega)] <;> (refine goS ?_ <;> repeat (intro _ <;> refine goS ?_))))
        all_goals (simp only [toNat_nat] at *)
        all_goals first
          | exact ret_now _ (by rw [if_pos (by omega)])
          | exact ret_now _ (by rw [if_neg (by omega), if_pos (by omega)])
          | exact ⟨k + 1 + 1, by omega, hnext (by omega) (by omega), Wk.sub ⟨rfl, by simp only [← wrapS (show k + 1 < 9223372036854775807 by omega)]; rfl, trivial⟩⟩
    · refine ret_now _ ?_
      rw [List.drop_of_length_le (by omega)]; rfl
def TaskSpec.ok (t : TaskSpec) : Prop := t.policy.ok ∧ inR t.probes 0 1000
instance (t : TaskSpec) : Decidable t.ok := by unfold TaskSpec.ok; infer_instance
def tsOk (l : List TaskSpec) : Prop := ∀ t ∈ l, t.ok
instance (l : List TaskSpec) : Decidable (tsOk l) := by unfold tsOk; infer_instance
def specE (s : Spec) : Int :=
  if ¬ inR s.id 0 2147483648 then 3 else if ¬ s.res.ok then 3 else if checkF s.ports ≠ 0 then checkF s.ports else if s.tasks.length = 0 then 2 else if 4 < s.tasks.length then 5 else eUn (tsOk s.tasks) 3
def tsTo (l : List TaskSpec) (k : Nat) : Prop := ∀ j, j < k → (l.getD j default).ok
theorem tsTo_all (l : List TaskSpec) : tsTo l l.length ↔ tsOk l := by
  constructor
  · intro h t ht
    obtain ⟨j, hj, rfl⟩ := List.getElem_of_mem ht
    have := h j hj
    simpa [List.getD_eq_getElem?_getD, hj] using this
  · intro h j hj
    refine h _ ?_
    simp [List.getD_eq_getElem?_getD, hj]
theorem tsTo_succ {l : List TaskSpec} {k : Nat} (h : tsTo l k) (hk : (l.getD k default).ok) : tsTo l (k + 1) := fun j hj => by
  rcases Nat.lt_succ_iff_lt_or_eq.1 hj with h1 | rfl
  · exact h j h1
  · exact hk
theorem ts_no {l : List TaskSpec} {k : Nat} (hk : k < l.length) (h : ¬ (l.getD k default).ok) : ¬ tsOk l := fun ho => h ((tsTo_all l).2 ho k hk)
theorem check13_p (s : Spec) : Pure Tryz.prog 103 [s.av] (I (specE s)) := by
  refine Pure.ev Tryz.f103 mx Tryz.func103 (by kernel_rfl) rfl rfl rfl ?_ <;> (refine goS ?_ <;> repeat (intro _ <;> refine goS ?_))
  (refine bnS (fun hr h => ?_) (fun hr h => ?_) <;> first | (exact False.elim h) | ((refine goS ?_ <;> repeat (intro _ <;> refine goS ?_))))
  · exact ret_now _ (by unfold specE inR; rw [if_pos (by omega)])
  · (refine bnS (fun hr h => ?_) (fun hr h => ?_) <;> first | (exact False.elim h) | ((refine goS ?_ <;> repeat (intro _ <;> refine goS ?_))))
    · exact ret_now _ (by unfold specE inR; rw [if_pos (by omega)])
    · have h0 : inR s.id 0 2147483648 := by unfold inR; omega
      (first | refine Pure.call (check09_p _) ?_ | refine HCall.pure (check09_p _) ?_) <;> (refine goS ?_ <;> repeat (intro _ <;> refine goS ?_))
      (refine bnS (fun hr h => ?_) (fun hr h => ?_) <;> first | (exact False.elim h) | ((refine goS ?_ <;> repeat (intro _ <;> refine goS ?_))))
      · exact ret_now _ (by unfold specE; rw [if_neg (not_not_intro h0), if_pos (fun ho => h (eUn_y ho)), eUn_n (fun ho => h (eUn_y ho))])
      · have h1 : s.res.ok := of_z h
        (first | refine Pure.call (refPortsCheck_p _) ?_ | refine HCall.pure (refPortsCheck_p _) ?_) <;> (refine goS ?_ <;> repeat (intro _ <;> refine goS ?_))
        (refine bnS (fun hr h => ?_) (fun hr h => ?_) <;> first | (exact False.elim h) | ((refine goS ?_ <;> repeat (intro _ <;> refine goS ?_))))
        · exact ret_now _ (by unfold specE; rw [if_neg (not_not_intro h0), if_neg (not_not_intro h1), if_pos h])
        · have h2 : ¬ checkF s.ports ≠ 0 := not_not_intro h
          (refine bnS (fun hr h => ?_) (fun hr h => ?_) <;> first | (exact False.elim h) | ((refine goS ?_ <;> repeat (intro _ <;> refine goS ?_))))
          · exact ret_now _ (by unfold specE; rw [if_neg (not_not_intro h0), if_neg (not_not_intro h1), if_neg h2, if_pos (by simpa using h)])
          · have h3 : ¬ s.tasks.length = 0 := by simpa using h
            (refine bnS (fun hr h => ?_) (fun hr h => ?_) <;> first | (exact False.elim h) | ((refine goS ?_ <;> repeat (intro _ <;> refine goS ?_))))
            · exact ret_now _ (by unfold specE; rw [if_neg (not_not_intro h0), if_neg (not_not_intro h1), if_neg h2, if_neg h3, if_pos (by omega)])
            · have h4 : ¬ 4 < s.tasks.length := by omega
              have hE : specE s = eUn (tsOk s.tasks) 3 := by unfold specE; rw [if_neg (not_not_intro h0), if_neg (not_not_intro h1), if_neg h2, if_neg h3, if_neg h4]
              rw [hE]
              clear hE
              refine loop_st (S := Nat) (fun k => [(1, .hptr 0 6 0 0), (5, I k)]) (fun _ => ⟨1, [(0, some ⟨6, [s.fv.map FV.up], none⟩)]⟩) (fun k => k ≤ s.tasks.length ∧ tsTo s.tasks k) (fun k => s.tasks.length - k) 0
                (Wk.cut rfl ⟨⟨rfl, rfl⟩, ⟨rfl, rfl⟩, trivial⟩ ⟨⟨rfl, rfl, row1 rfl, nofun⟩, trivial⟩) ⟨Nat.zero_le _, fun j hj => absurd hj (Nat.not_lt_zero j)⟩ ?_
              rintro k ⟨hk, hT⟩
              (refine goS ?_ <;> repeat (intro _ <;> refine goS ?_))
              (refine bnS (fun hr h => ?_) (fun hr h => ?_) <;> first | (exact False.elim h) | ((refine goS ?_ <;> repeat (intro _ <;> refine goS ?_))))
              · have hk2 : k < s.tasks.length := h
                (first | refine Pure.call (check11_p (s.tasks.getD k default).policy) ?_ | refine HCall.pure (check11_p (s.tasks.getD k default).policy) ?_) <;> (refine goS ?_ <;> repeat (intro _ <;> refine goS ?_))
                (refine bnS (fun hr h => ?_) (fun hr h => ?_) <;> first | (exact False.elim h) | ((refine goS ?_ <;> repeat (intro _ <;> refine goS ?_))))
                · exact ret_now _ (by rw [eUn_n (ts_no hk2 fun ho => h (eUn_y ho.1)), eUn_n (fun ho => h (eUn_y ho))])
                · have h5 := of_z h
                  (refine bnS (fun hr h => ?_) (fun hr h => ?_) <;> first | (exact False.elim h) | ((refine goS ?_ <;> repeat (intro _ <;> refine goS ?_))))
                  · exact ret_now _ (by rw [eUn_n (ts_no hk2 fun ho => by have := ho.2; unfold inR at this; omega)])
                  · (refine bnS (fun hr h => ?_) (fun hr h => ?_) <;> first | (exact False.elim h) | ((refine goS ?_ <;> repeat (intro _ <;> refine goS ?_))))
                    · exact ret_now _ (by rw [eUn_n (ts_no hk2 fun ho => by have := ho.2; unfold inR at this; omega)])
                    · rename_i h6 h7
                      exact ⟨k + 1, by omega, ⟨by omega, tsTo_succ hT ⟨h5, by unfold inR; omega⟩⟩, Wk.sub ⟨rfl, by simp only [← wrapS (show k < 9223372036854775807 by omega)]; rfl, trivial⟩⟩
              · have : k = s.tasks.length := by omega
                subst this
                exact ret_now _ (by rw [eUn_y ((tsTo_all _).1 hT)])
theorem wu : IntKind.i64.wrap (0 + 1) = 1 ∧ IntKind.i64.wrap (IntKind.i64.wrap (0 + 1) + 1) = 2 ∧ IntKind.i64.wrap (IntKind.i64.wrap (IntKind.i64.wrap (0 + 1) + 1) + 1) = 3 ∧ IntKind.i64.wrap (IntKind.i64.wrap (IntKind.i64.wrap (IntKind.i64.wrap (0 + 1) + 1) + 1) + 1) = 4 ∧ IntKind.i64.wrap (IntKind.i64.wrap (IntKind.i64.wrap (IntKind.i64.wrap (IntKind.i64.wrap (0 + 1) + 1) + 1) + 1) + 1) = 5 := by decide
def spF (s : Spec) : Nat → Prop
  | 0 => inR s.id 0 2147483648
  | 1 => s.res.ok
  | 2 => checkF s.ports = 0
  | 3 => s.tasks.length ≠ 0 ∧ s.tasks.length ≤ 4
  | 4 => (s.tasks.getD 0 default).policy.ok
  | 5 => inR (s.tasks.getD 0 default).probes 0 1000
  | 6 => (s.tasks.getD 1 default).policy.ok
  | 7 => inR (s.tasks.getD 1 default).probes 0 1000
  | 8 => (s.tasks.getD 2 default).policy.ok
  | 9 => inR (s.tasks.getD 2 default).probes 0 1000
  | 10 => (s.tasks.getD 3 default).policy.ok
  | 11 => inR (s.tasks.getD 3 default).probes 0 1000
  | _ => True
theorem spF_step {s : Spec} {k : Nat} (h : ∀ j, j < k → spF s j) (hk : spF s k) : ∀ j, j < k + 1 → spF s j := fun j hj => by
  rcases Nat.lt_succ_iff_lt_or_eq.1 hj with h1 | rfl
  · exact h j h1
  · exact hk
theorem specE_4 {s : Spec} (h : ∀ j, j < 4 → spF s j) : specE s = eUn (tsOk s.tasks) 3 := by
  have h0 : inR s.id 0 2147483648 := h 0 (by decide)
  have h1 : s.res.ok := h 1 (by decide)
  have h2 : checkF s.ports = 0 := h 2 (by decide)
  have h3 : s.tasks.length ≠ 0 ∧ s.tasks.length ≤ 4 := h 3 (by decide)
  unfold specE
  rw [if_neg (not_not_intro h0), if_neg (not_not_intro h1), if_neg (not_not_intro h2), if_neg h3.1, if_neg (by have := h3.2; omega)]
theorem leaf_ts {s : Spec} {k : Nat} (j : Nat) (hc : ∀ j, j < k → spF s j) (hk : 4 ≤ k) (hj : j < s.tasks.length) (h : ¬ (s.tasks.getD j default).ok) {X : Prop} [Decidable X] (hx : ¬ eUn X 3 = 0) : I (eUn X 3) = I (specE s) := by
  rw [specE_4 fun j hj => hc j (by omega), eUn_n (ts_no hj h), eUn_n fun h => hx (eUn_y h)]
theorem leaf_0 {s : Spec} {X : Prop} [Decidable X] (e : X = spF s 0) (hx : ¬ eUn X 3 = 0) : I (eUn X 3) = I (specE s) := by
  have h : ¬ X := fun h => hx (eUn_y h)
  rw [eUn_n h]
  unfold specE
  rw [if_pos (by rw [e] at h; exact h)]
theorem leaf_1 {s : Spec} (hc : ∀ j, j < 1 → spF s j) {X : Prop} [Decidable X] (e : X = spF s 1) (hx : ¬ eUn X 3 = 0) : I (eUn X 3) = I (specE s) := by
  have h : ¬ X := fun h => hx (eUn_y h)
  rw [eUn_n h]
  unfold specE
  rw [if_neg (not_not_intro (show inR s.id 0 2147483648 from hc 0 (by decide))), if_pos (by rw [e] at h; exact h)]
theorem leaf_2 {s : Spec} (hc : ∀ j, j < 2 → spF s j) (hx : ¬ checkF s.ports = 0) : I (checkF s.ports) = I (specE s) := by
  unfold specE
  rw [if_neg (not_not_intro (show inR s.id 0 2147483648 from hc 0 (by decide))), if_neg (not_not_intro (show s.res.ok from hc 1 (by decide))), if_pos hx]
theorem leaf_3a {s : Spec} (hc : ∀ j, j < 3 → spF s j) (hx : s.tasks.length = 0) : I 2 = I (specE s) := by
  unfold specE
  rw [if_neg (not_not_intro (show inR s.id 0 2147483648 from hc 0 (by decide))), if_neg (not_not_intro (show s.res.ok from hc 1 (by decide))), if_neg (not_not_intro (show checkF s.ports = 0 from hc 2 (by decide))), if_pos hx]
theorem leaf_3b {s : Spec} (hc : ∀ j, j < 3 → spF s j) (hx : 4 < s.tasks.length) : I 5 = I (specE s) := by
  unfold specE
  rw [if_neg (not_not_intro (show inR s.id 0 2147483648 from hc 0 (by decide))), if_neg (not_not_intro (show s.res.ok from hc 1 (by decide))), if_neg (not_not_intro (show checkF s.ports = 0 from hc 2 (by decide))), if_neg (by omega), if_pos hx]
theorem leaf_end {s : Spec} (hc : ∀ j, j < 4 + 2 * s.tasks.length → spF s j) (h4 : s.tasks.length ≤ 4) : I 0 = I (specE s) := by
  rw [specE_4 fun j hj => hc j (by omega), eUn_y]
  refine (tsTo_all _).1 fun j hj => ?_
  have h1 : j = 0 ∨ j = 1 ∨ j = 2 ∨ j = 3 := by omega
  rcases h1 with rfl | rfl | rfl | rfl
  · exact ⟨hc 4 (by omega), hc 5 (by omega)⟩
  · exact ⟨hc 6 (by omega), hc 7 (by omega)⟩
  · exact ⟨hc 8 (by omega), hc 9 (by omega)⟩
  · exact ⟨hc 10 (by omega), hc 11 (by omega)⟩
def cl2 (f : FuncId) (b : Nat) : List AV := [.fn (.func f) [] [.hptr b 6 0 0]]
end Go.Proofs.YtdblhmpcilihnaaGreat
