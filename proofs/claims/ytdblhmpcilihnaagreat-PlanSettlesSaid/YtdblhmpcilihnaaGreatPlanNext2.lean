/- plan.Next: what is next for a task, by a walk over its rules. -/
import Derived.Test.YtdblhmpcilihnaaGreatPlanNext
set_option maxRecDepth 100000
namespace Go.Proofs.YtdblhmpcilihnaaGreat
open Go.ChangeShapes Go.WideShapes Go.ChangeAt Go.RowKit
set_option linter.unusedVariables false
set_option linter.unusedSimpArgs false
def ruleF (s : Int) (t : Task) (k : Look) : Step :=
  if s = 0 ∨ s = 3 then startF t k else if s = 1 then withF live4 t k else if s = 2 then withF live5 t k else if s = 4 then withF live6 t k else withF live7 t k
theorem zeroRule (w : World) : (zeroValue 136).run Tryz.prog w = .ok .nilFunc w := by kernel_rfl
theorem rules_look {w : World} {b : Nat} (h : RulesAt w b) (s : Int) (h0 : 0 ≤ s) (h7 : s ≤ 7) :
    (s ≤ 5 → ∃ v, RuleAt w v (ruleF s) ∧ (Instr.lookup 138 (.map (some b)) (.int .u8 s) true).run Tryz.prog w = .ok (.tuple #[v, .bool true]) w) ∧
    (5 < s → (Instr.lookup 138 (.map (some b)) (.int .u8 s) true).run Tryz.prog w = .ok (.tuple #[.nilFunc, .bool false]) w) := by
  obtain ⟨v0, v1, v2, v4, v5, hm, r0, r1, r2, r4, r5⟩ := h
  have hl := hm.look (P := Tryz.prog) Tryz.underlying138 Tryz.underlying5 (zeroRule w) s true
  have hs : s = 0 ∨ s = 1 ∨ s = 2 ∨ s = 3 ∨ s = 4 ∨ s = 5 ∨ s = 6 ∨ s = 7 := by omega
  rcases hs with rfl | rfl | rfl | rfl | rfl | rfl | rfl | rfl
  · exact ⟨fun _ => ⟨v0, r0, hl⟩, fun h => by omega⟩
  · exact ⟨fun _ => ⟨v1, r1, hl⟩, fun h => by omega⟩
  · exact ⟨fun _ => ⟨v2, r2, hl⟩, fun h => by omega⟩
  · exact ⟨fun _ => ⟨v0, r0, hl⟩, fun h => by omega⟩
  · exact ⟨fun _ => ⟨v4, r4, hl⟩, fun h => by omega⟩
  · exact ⟨fun _ => ⟨v5, r5, hl⟩, fun h => by omega⟩
  · exact ⟨fun h => by omega, fun _ => hl⟩
  · exact ⟨fun h => by omega, fun _ => hl⟩
/-- What Next returns. -/
def nextF (t : Task) (k : Look) : Step := if t.ok then (if t.state ≤ 5 then ruleF t.state t k else ⟨0, 0⟩) else ⟨0, 0⟩
theorem ok_state {t : Task} (h : t.ok = true) : t.state ≤ 7 := by
  unfold Task.ok Task.b6 Task.b5 Task.b4 Task.b3 Task.b1 at h
  by_cases h7 : t.state ≤ 7
  · exact h7
  · simp [h7] at h
theorem err_ok {t : Task} (h : t.ok = true) : t.err = 0 := by simp [Task.err, h]
theorem err_no {t : Task} (h : t.ok = false) : t.err = 2 := by simp [Task.err, h]
set_option maxRecDepth 100000 in
set_option maxHeartbeats 1000000 in
theorem next_any (t : Task) (k : Look) (A : Option Addr) (c : Nat) (w : World) (hl : t.starts.length ≤ c) (hc : c ≤ maxLen) (hs : Kn.Sl (Kn.int .i64) w A t.starts) (h0 : 0 ≤ t.state) :
    Calls Tryz.prog 45 #[t.val A c, k.val] w fun e w' => e = .returned (.tuple #[(nextF t k).val, .int .i64 t.err]) ∧ Below w.heap.size w w' := by
  cases hok : t.ok
  · have he : (t.err != 0) = true := by rw [err_no hok]; rfl
    have hn : nextF t k = ⟨0, 0⟩ := by simp [nextF, hok]
    rw [hn]
    clear hn hok
    have HS := Lib.hid hs
    clear hs
    have hck := fun W : World => taskCheck_any t A c W hl hc
    have HC := Lib.hid hck
    clear hck
    simp only [Task.val, Look.val]
    go_enter Tryz.func45, Tryz.ntmps45
    go_wp2_with fail
    refine (HC.out _ (Kn.Sl.below HS.out (by repeat (first | with_reducible exact Below.refl _ _ | with_reducible assumption | with_reducible refine Below.alloc ?_ (by first | omega | (simp; done) | (simp; omega)) _ | with_reducible refine Below.setCell ?_ (by first | omega | (simp; done) | (simp; omega)) _ | with_reducible refine Below.drew ?_ | with_reducible refine below_drewN ?_ _ | with_reducible refine Below.next ?_ (by with_reducible assumption))))).mono ?_
    rintro e w1 ⟨rfl, hb⟩
    obtain ⟨hbc, hbf⟩ := bcell hb
    have hz := hb.size
    simp at hz
    go_wp2_with fail
    refine bodyPost_ret (v := .tuple #[.agg #[.int .u8 0, .int .i64 0], .int .i64 t.err]) ?_ rfl ⟨rfl, (by repeat (first | with_reducible exact Below.refl _ _ | with_reducible assumption | with_reducible refine Below.alloc ?_ (by first | omega | (simp; done) | (simp; omega)) _ | with_reducible refine Below.setCell ?_ (by first | omega | (simp; done) | (simp; omega)) _ | with_reducible refine Below.drew ?_ | with_reducible refine below_drewN ?_ _ | with_reducible refine Below.next ?_ (by with_reducible assumption)))⟩
    simp [results, Tryz.results45, go_sem, hbc, hz]
  · have he : (t.err != 0) = false := by rw [err_ok hok]; rfl
    have h7 := ok_state hok
    have e0 := err_ok hok
    rw [e0]
    have HE := Lib.hid e0
    clear e0
    have hck := fun W : World => taskCheck_any t A c W hl hc
    have HC := Lib.hid hck
    clear hck
    have HS := Lib.hid hs
    clear hs
    by_cases h5 : t.state ≤ 5
    · have hn : nextF t k = ruleF t.state t k := by simp [nextF, hok, h5]
      rw [hn]
      clear hn hok
      have HRL := Lib.hid (fun (w1 : World) (b : Nat) (h : RulesAt w1 b) => (rules_look h t.state h0 h7).1 h5)
      simp only [Task.val, Look.val]
      go_enter Tryz.func45, Tryz.ntmps45
      go_wp2_with fail
      refine (HC.out _ (Kn.Sl.below HS.out (by repeat (first | with_reducible exact Below.refl _ _ | with_reducible assumption | with_reducible refine Below.alloc ?_ (by first | omega | (simp; done) | (simp; omega)) _ | with_reducible refine Below.setCell ?_ (by first | omega | (simp; done) | (simp; omega)) _ | with_reducible refine Below.drew ?_ | with_reducible refine below_drewN ?_ _ | with_reducible refine Below.next ?_ (by with_reducible assumption))))).mono ?_
      rintro e w1 ⟨rfl, hb⟩
      obtain ⟨hbc, hbf⟩ := bcell hb
      have hz := hb.size
      simp at hz
      go_wp2_with fail
      have hc0 : w1.cell? ⟨w.heap.size, 0, none⟩ = some (.int .u8 t.state) := by rw [hbc _ _ (by simp <;> omega)]; simp [go_sem]
      go_region_held3 (fun w' => w'.cell? ⟨w.heap.size, 0, none⟩ = some (.int .u8 t.state)) (first | exact hc0 | exact (Below.cell (by assumption) (by simp <;> omega)).trans (by assumption))
        (first | (go_at_call 81; refine (rules_any _).mono ?_; rintro e w2 ⟨⟨b, rfl, hR⟩, hb2⟩; obtain ⟨v, hv, hlk⟩ := HRL.out _ _ hR))
      obtain ⟨fid, cap, rfl, hent, hcall⟩ := hv
      have HCA := Lib.hid hcall
      have hbc2 := fun b o (h : b < w.heap.size + 1 + 1 + 1) => (hb2.cell (p := ⟨b, o, none⟩) (by simp <;> omega)).trans (hbc b o (by simp <;> omega))
      have hbf2 := fun b o (h : b < w.heap.size + 1 + 1 + 1) => (hb2.frozen (p := ⟨b, o, none⟩) (by simp <;> omega)).trans (hbf b o (by simp <;> omega))
      have hz2 : w.heap.size + 1 + 1 + 1 ≤ w2.heap.size := by have := hb2.size; simp at this; omega
      clear hcall hbc hbf hlk hc0
      go_wp2_with fail
      refine (HCA.out _ (Since.refl _) t k A c).mono ?_
      rintro e w3 ⟨rfl, hb3⟩
      have hbc3 := fun b o (h : b < w.heap.size + 1 + 1 + 1) => (hb3.cell (p := ⟨b, o, none⟩) (by simp <;> omega)).trans (hbc2 b o h)
      have hbf3 := fun b o (h : b < w.heap.size + 1 + 1 + 1) => (hb3.frozen (p := ⟨b, o, none⟩) (by simp <;> omega)).trans (hbf2 b o h)
      have hz3 : w.heap.size + 1 + 1 + 1 ≤ w3.heap.size := Nat.le_trans hz2 hb3.size
      clear hbc2 hbf2
      simp only [Step.val]
      go_wp2_with fail
      refine bodyPost_ret (v := .tuple #[.agg #[.int .u8 (ruleF t.state t k).do_, .int .i64 (ruleF t.state t k).code], .int .i64 0]) ?_ rfl ⟨rfl, (by repeat (first | with_reducible exact Below.refl _ _ | with_reducible assumption | with_reducible refine Below.alloc ?_ (by first | omega | (simp; done) | (simp; omega)) _ | with_reducible refine Below.setCell ?_ (by first | omega | (simp; done) | (simp; omega)) _ | with_reducible refine Below.drew ?_ | with_reducible refine below_drewN ?_ _ | with_reducible refine Below.next ?_ (by with_reducible assumption)))⟩
      simp [results, Tryz.results45, go_sem, hbc3, hz3]
    · have hn : nextF t k = ⟨0, 0⟩ := by simp [nextF, hok, h5]
      rw [hn]
      clear hn hok
      have HRL := Lib.hid (fun (w1 : World) (b : Nat) (h : RulesAt w1 b) => (rules_look h t.state h0 h7).2 (by omega))
      simp only [Task.val, Look.val]
      go_enter Tryz.func45, Tryz.ntmps45
      go_wp2_with fail
      refine (HC.out _ (Kn.Sl.below HS.out (by repeat (first | with_reducible exact Below.refl _ _ | with_reducible assumption | with_reducible refine Below.alloc ?_ (by first | omega | (simp; done) | (simp; omega)) _ | with_reducible refine Below.setCell ?_ (by first | omega | (simp; done) | (simp; omega)) _ | with_reducible refine Below.drew ?_ | with_reducible refine below_drewN ?_ _ | with_reducible refine Below.next ?_ (by with_reducible assumption))))).mono ?_
      rintro e w1 ⟨rfl, hb⟩
      obtain ⟨hbc, hbf⟩ := bcell hb
      have hz := hb.size
      simp at hz
      go_wp2_with fail
      have hc0 : w1.cell? ⟨w.heap.size, 0, none⟩ = some (.int .u8 t.state) := by rw [hbc _ _ (by simp <;> omega)]; simp [go_sem]
      go_region_held3 (fun w' => w'.cell? ⟨w.heap.size, 0, none⟩ = some (.int .u8 t.state)) (first | exact hc0 | exact (Below.cell (by assumption) (by simp <;> omega)).trans (by assumption))
        (first | (go_at_call 81; refine (rules_any _).mono ?_; rintro e w2 ⟨⟨b, rfl, hR⟩, hb2⟩; have hlk := HRL.out _ _ hR))
      have hbc2 := fun b o (h : b < w.heap.size + 1 + 1 + 1) => (hb2.cell (p := ⟨b, o, none⟩) (by simp <;> omega)).trans (hbc b o (by simp <;> omega))
      have hbf2 := fun b o (h : b < w.heap.size + 1 + 1 + 1) => (hb2.frozen (p := ⟨b, o, none⟩) (by simp <;> omega)).trans (hbf b o (by simp <;> omega))
      have hz2 : w.heap.size + 1 + 1 + 1 ≤ w2.heap.size := by have := hb2.size; simp at this; omega
      clear hbc hbf hlk hc0
      go_wp2_with fail
      refine bodyPost_ret (v := .tuple #[.agg #[.int .u8 0, .int .i64 0], .int .i64 0]) ?_ rfl ⟨rfl, (by repeat (first | with_reducible exact Below.refl _ _ | with_reducible assumption | with_reducible refine Below.alloc ?_ (by first | omega | (simp; done) | (simp; omega)) _ | with_reducible refine Below.setCell ?_ (by first | omega | (simp; done) | (simp; omega)) _ | with_reducible refine Below.drew ?_ | with_reducible refine below_drewN ?_ _ | with_reducible refine Below.next ?_ (by with_reducible assumption)))⟩
      simp [results, Tryz.results45, go_sem, hbc2, hz2]
end Go.Proofs.YtdblhmpcilihnaaGreat
