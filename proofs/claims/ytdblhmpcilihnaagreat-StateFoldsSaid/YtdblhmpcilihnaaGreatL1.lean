/- The helpers of the laws of layer 20: numbers, configurations, specifications and records brought near. -/
import Derived.Test.YtdblhmpcilihnaaGreatSS
namespace Go.Proofs.YtdblhmpcilihnaaGreat
open Go.RowKit E
set_option maxRecDepth 100000
set_option linter.unusedVariables false
set_option linter.unusedSimpArgs false
theorem tmod_emod (i n : Int) (hn : 1 ≤ n) : Int.tmod (Int.tmod i n + n) n = i % n := by
  have h1 : 0 ≤ i % n ∧ i % n < n := ⟨Int.emod_nonneg _ (by omega), Int.emod_lt_of_pos _ (by omega)⟩
  have h2 := Int.tmod_eq_emod (a := i) (b := n)
  have hab : (n.natAbs : Int) = n := by omega
  by_cases c : 0 ≤ i ∨ n ∣ i
  · rw [if_pos c] at h2
    rw [h2, Int.tmod_eq_emod_of_nonneg (by omega)]
    simp
  · rw [if_neg c, hab] at h2
    rw [h2, show i % n - n + n = i % n by omega, Int.tmod_eq_emod_of_nonneg h1.1]
    simp
theorem tmod_bound (i n : Int) (hn : 1 ≤ n) : -n < Int.tmod i n ∧ Int.tmod i n < n := by
  have h1 : 0 ≤ i % n ∧ i % n < n := ⟨Int.emod_nonneg _ (by omega), Int.emod_lt_of_pos _ (by omega)⟩
  have h2 := Int.tmod_eq_emod (a := i) (b := n)
  have hab : (n.natAbs : Int) = n := by omega
  by_cases c : 0 ≤ i ∨ n ∣ i
  · rw [if_pos c] at h2; omega
  · rw [if_neg c, hab] at h2
    omega
theorem modN_p (i : Int) (m : Nat) (h2 : m < 1000000) : Pure Tryz.prog 43 [I i, I (Int.ofNat (m + 1))] (I (i % Int.ofNat (m + 1))) := by
  have h1 : 1 ≤ Int.ofNat (m + 1) := by show 1 ≤ ((m + 1 : Nat) : Int); omega
  have h3 : Int.ofNat (m + 1) ≤ 1000000 := by show ((m + 1 : Nat) : Int) ≤ 1000000; omega
  have hb := tmod_bound i (Int.ofNat (m + 1)) h1
  have e1 : Go.IntKind.i64.wrap (Int.tmod i (Int.ofNat (m + 1))) = Int.tmod i (Int.ofNat (m + 1)) := wrap_id (by omega) (by omega)
  have e2 : Go.IntKind.i64.wrap (Int.tmod i (Int.ofNat (m + 1)) + Int.ofNat (m + 1)) = Int.tmod i (Int.ofNat (m + 1)) + Int.ofNat (m + 1) := wrap_id (by omega) (by omega)
  have e0 := tmod_emod i (Int.ofNat (m + 1)) h1
  have hm : 0 ≤ i % Int.ofNat (m + 1) ∧ i % Int.ofNat (m + 1) < Int.ofNat (m + 1) := ⟨Int.emod_nonneg _ (by omega), Int.emod_lt_of_pos _ (by omega)⟩
  have e3 : Go.IntKind.i64.wrap (i % Int.ofNat (m + 1)) = i % Int.ofNat (m + 1) := wrap_id (by omega) (by omega)
  refine Pure.ev Tryz.f43 mx Tryz.func43 (by kernel_rfl) rfl rfl rfl ?_ <;> (refine goS ?_ <;> repeat (intro _ <;> refine goS ?_))
  exact ret_now _ (by rw [e2, e0])
theorem mod_p (i n : Int) (h1 : 1 ≤ n) (h2 : n ≤ 1000000) : Pure Tryz.prog 43 [I i, I n] (I (i % n)) := by
  obtain ⟨m, rfl⟩ : ∃ m : Nat, n = Int.ofNat (m + 1) := ⟨(n - 1).toNat, by show n = (((n - 1).toNat + 1 : Nat) : Int); omega⟩
  exact modN_p i m (by have : ((m + 1 : Nat) : Int) ≤ 1000000 := h2; omega)
def cfgF (n : Int) : Config := ⟨⟨10, 10, 10⟩, 1 + n % 3, 16 * (1 + n % 3 + 1), 2, 2, 5, 10, 2, 3⟩
theorem m3 (n : Int) : 0 ≤ n % 3 ∧ n % 3 < 3 := ⟨Int.emod_nonneg _ (by omega), Int.emod_lt_of_pos _ (by omega)⟩
abbrev wr (n : Int) : Int := Go.IntKind.i64.wrap n
theorem cfg_p (n : Int) : Pure Tryz.prog 20 [I n] (cfgF n).av := by
  have h := m3 n
  have e1 : wr (1 + n % 3) = 1 + n % 3 := wrap_id (by omega) (by omega)
  have e2 : wr (1 + n % 3 + 1) = 1 + n % 3 + 1 := wrap_id (by omega) (by omega)
  have e3 : wr (16 * (1 + n % 3 + 1)) = 16 * (1 + n % 3 + 1) := wrap_id (by omega) (by omega)
  refine Pure.ev Tryz.f20 mx Tryz.func20 (by kernel_rfl) rfl rfl rfl ?_ <;> (refine goS ?_ <;> repeat (intro _ <;> refine goS ?_))
  (first | refine Pure.call (mod_p n 3 (by omega) (by omega)) ?_ | refine HCall.pure (mod_p n 3 (by omega) (by omega)) ?_) <;> (refine goS ?_ <;> repeat (intro _ <;> refine goS ?_))
  exact ret_now _ (Eq.trans (b := Config.av ⟨⟨10, 10, 10⟩, wr (1 + n % 3), wr (16 * wr (wr (1 + n % 3) + 1)), 2, 2, 5, 10, 2, 3⟩) rfl (by rw [e1, e2, e3]; rfl))
theorem cfg_ok (n : Int) : (cfgF n).ok := by
  have h := m3 n
  refine ⟨show Res.ok ⟨10, 10, 10⟩ by decide, ?_, ?_, show inR 2 2 16 by decide, show inR 2 1 64 by decide, show inR 5 1 1099511627776 by decide, show inR 10 1 1099511627776 by decide, show inR 2 0 1099511627776 by decide, show inR 3 0 1099511627776 by decide⟩
  · unfold inR cfgF; dsimp only; omega
  · have h2 : inR (1 + n % 3) 1 8 := ⟨by omega, by omega⟩
    have h3 : needF (1 + n % 3) = 16 * (1 + n % 3 + 1) := if_pos h2
    show inR (16 * (1 + n % 3 + 1)) (needF (1 + n % 3)) 1024
    rw [h3]
    exact ⟨Int.le_refl _, by omega⟩
def tsF (t : TaskSpec) : TaskSpec := ⟨⟨t.policy.always, 1 + t.policy.limit % 3, 1 + t.policy.window % 20, 1 + t.policy.base % 3, 3 + t.policy.most % 6⟩, t.probes % 3⟩
def portsN (l : List Int) : List Int :=
  if l.length = 0 then [] else if 1 < l.length ∧ 80 + l.getD 0 0 % 4 < 80 + l.getD 1 0 % 4 then [80 + l.getD 0 0 % 4, 80 + l.getD 1 0 % 4] else [80 + l.getD 0 0 % 4]
def tasksN (l : List TaskSpec) : List TaskSpec :=
  if l.length = 0 then [⟨⟨false, 2, 20, 2, 8⟩, 0⟩] else if l.length = 1 then [tsF (l.getD 0 default)] else [tsF (l.getD 0 default), tsF (l.getD 1 default)]
def specN (x : Spec) : Spec := ⟨x.id % 4, ⟨x.res.cpu % 8, x.res.mem % 8, x.res.disk % 8⟩, portsN x.ports, tasksN x.tasks⟩
theorem mb (i n : Int) (h : 1 ≤ n) : 0 ≤ i % n ∧ i % n < n := ⟨Int.emod_nonneg _ (by omega), Int.emod_lt_of_pos _ (by omega)⟩
theorem wadd {k i n : Int} (h1 : 1 ≤ n) (h2 : n ≤ 1000) (h3 : 0 ≤ k ∧ k ≤ 1000) : wr (k + i % n) = k + i % n := by
  have := mb i n h1
  exact wrap_id (by omega) (by omega)
theorem portsN_0 {l : List Int} (h : l.length = 0) : portsN l = [] := if_pos h
theorem portsN_1 {l : List Int} (h : 0 < l.length) (h2 : ¬ (1 < l.length ∧ wr (80 + l.getD 0 0 % 4) < wr (80 + l.getD 1 0 % 4))) : portsN l = [wr (80 + l.getD 0 0 % 4)] := by
  unfold portsN
  rw [wadd (by omega) (by omega) (by omega), wadd (by omega) (by omega) (by omega)] at h2
  rw [wadd (by omega) (by omega) (by omega), if_neg (by omega), if_neg h2]
theorem portsN_2 {l : List Int} (h : 1 < l.length) (h2 : wr (80 + l.getD 0 0 % 4) < wr (80 + l.getD 1 0 % 4)) : portsN l = [wr (80 + l.getD 0 0 % 4), wr (80 + l.getD 1 0 % 4)] := by
  unfold portsN
  rw [wadd (by omega) (by omega) (by omega), wadd (by omega) (by omega) (by omega)] at h2 ⊢
  rw [if_neg (by omega), if_pos ⟨h, h2⟩]
/-- A task's specification as the code computes it. -/
abbrev tsW (t : TaskSpec) : TaskSpec := ⟨⟨t.policy.always, wr (1 + t.policy.limit % 3), wr (1 + t.policy.window % 20), wr (1 + t.policy.base % 3), wr (3 + t.policy.most % 6)⟩, t.probes % 3⟩
theorem tsW_eq (t : TaskSpec) : tsW t = tsF t := by
  unfold tsW tsF
  rw [wadd (by omega) (by omega) (by omega), wadd (by omega) (by omega) (by omega), wadd (by omega) (by omega) (by omega), wadd (by omega) (by omega) (by omega)]
theorem tasksN_0 {l : List TaskSpec} (h : l.length = 0) : tasksN l = [⟨⟨false, 2, 20, 2, 8⟩, 0⟩] := if_pos h
theorem tasksN_1 {l : List TaskSpec} (h : l.length = 1) : tasksN l = [tsW (l.getD 0 default)] := by unfold tasksN; rw [if_neg (by omega), if_pos h, tsW_eq]
theorem tasksN_2 {l : List TaskSpec} (h : 2 ≤ l.length) : tasksN l = [tsW (l.getD 0 default), tsW (l.getD 1 default)] := by unfold tasksN; rw [if_neg (by omega), if_neg (by omega), tsW_eq, tsW_eq]
abbrev fvI (n : Int) : List FV := [.val (.int .i64 n)]
theorem ret_via {n0 : Nat} {fr fr1 : Fr} {H H1 : Hp} {K : AV → Hp → Prop} (h : Wk n0 fr H fr1 H1) (k : ∃ x1 H2, Wk n0 fr1 H1 [(0, x1)] H2 ∧ K x1 H2) : ∃ x1 H2, Wk n0 fr H [(0, x1)] H2 ∧ K x1 H2 := by
  obtain ⟨x, H2, a, b⟩ := k
  exact ⟨x, H2, h.trans a, b⟩
end Go.Proofs.YtdblhmpcilihnaaGreat
