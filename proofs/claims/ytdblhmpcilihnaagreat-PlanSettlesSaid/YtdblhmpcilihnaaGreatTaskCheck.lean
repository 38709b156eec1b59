/- task.Check: whether a task is valid, by a walk. -/
import Derived.Test.YtdblhmpcilihnaaGreatData
import Derived.Test.YtdblhmpcilihnaaGreatRows
import Derived.WalkKit
import Derived.ProofKit
import Derived.Lib.Hide
import Derived.Deep.RegionHeld3
import Derived.Deep.DeepCutAuto
import Derived.Deep.LoopGhost
import Derived.WalkLawsBesides
import Derived.WalkSpells
namespace Go.Proofs.YtdblhmpcilihnaaGreat
open Go.ChangeShapes Go.WideShapes Go.ChangeAt Go.RowKit

def inB (n lo hi : Int) : Bool := decide (lo ≤ n) && decide (n ≤ hi)
theorem taskIn_any (n lo hi : Int) (w : World) : Calls Tryz.prog 148 #[.int .i64 n, .int .i64 lo, .int .i64 hi] w fun e w' => e = .returned (.bool (inB n lo hi)) ∧ w = w' := by
  unfold inB
  by_cases h1 : lo ≤ n <;> by_cases h2 : n ≤ hi
  all_goals
    go_enter Tryz.func148, Tryz.ntmps148
    go_wp2_with fail
    go_ret
    exact ⟨by simp [h1, h2], rfl⟩
def onlyB (n most : Int) (may : Bool) : Bool := decide (n = 0) || (may && inB n 0 most)
theorem taskOnly_any (n most : Int) (may : Bool) (w : World) : Calls Tryz.prog 149 #[.int .i64 n, .int .i64 most, .bool may] w fun e w' => e = .returned (.bool (onlyB n most may)) ∧ w = w' := by
  unfold onlyB
  by_cases h1 : (n == 0) = true <;> cases may
  all_goals
    go_enter Tryz.func149, Tryz.ntmps149
    go_wp2_with (go_at_call 148; refine (taskIn_any _ _ _ _).mono ?_; rintro e w' ⟨rfl, rfl⟩)
    go_ret
    exact ⟨by simp_all, rfl⟩
def mTick : Int := 1099511627776
def mTick2 : Int := 2199023255552
theorem mTick_eq : (1099511627776 : Int) = mTick := rfl
theorem mTick2_eq : (2199023255552 : Int) = mTick2 := rfl
/-- Is the i-th start, s, a tick, and not before the one before it? -/
def startOk (l : List Int) (i : Nat) (s : Int) : Bool := inB s 0 mTick && ((i : Int) == 0 || decide (l.getD (i - 1) 0 ≤ s))
def startsTo (l : List Int) : Nat → Bool
  | 0 => true
  | k + 1 => startsTo l k && startOk l k (l.getD k 0)
def Task.b1 (t : Task) : Bool := decide (t.state ≤ 7) && (inB t.inc 0 mTick && (decide ((t.starts.length : Int) ≤ 8) && (((t.starts.length : Int) == 0) == (t.inc == 0))))
def Task.b3 (t : Task) (b : Bool) : Bool := if t.state == 0 then b && ((t.inc == 0) && (t.code == 0)) else b
def Task.b4 (t : Task) (b : Bool) : Bool := if t.inc == 0 then b && ((t.state == 0) || (t.state == 6)) else b
def Task.has (t : Task) : Bool := (t.state == 2) || ((t.state == 4) || (t.state == 5))
def Task.b5 (t : Task) (b : Bool) : Bool := b && (onlyB t.pid mTick t.has && onlyB t.nonce mTick t.has)
def Task.b6 (t : Task) (b : Bool) : Bool := b && (onlyB t.due mTick2 (t.state == 3) && onlyB t.until_ mTick2 (t.state == 4))
def Task.ok (t : Task) : Bool := t.b6 (t.b5 (t.b4 (t.b3 (t.b1 && startsTo t.starts t.starts.length))))
def Task.err (t : Task) : Int := if t.ok then 0 else 2
def Task.obj (t : Task) (A : Option Addr) (c : Nat) : Obj := .cells #[.int .u8 t.state, .int .i64 t.inc, .int .i64 t.pid, .int .i64 t.nonce, .int .i64 t.due, .int .i64 t.until_, .int .i64 t.code, .slice A t.starts.length c] 62
theorem starts_step {b b' : Bool} {l : List Int} {k : Nat} {x : Int} (hb : b' = (b && startsTo l k)) (hx : x = l.getD k 0) : (b && startsTo l (k + 1)) = (b' && startOk l k x) := by
  simp only [startsTo, hb, hx, Bool.and_assoc]
theorem beq_false_of {a b : Int} (h : a ≠ b) : (a == b) = false := by simpa using h
theorem beq_true_of {a b : Int} (h : a = b) : (a == b) = true := by simpa using h
set_option maxRecDepth 100000 in
set_option maxHeartbeats 2000000 in
theorem taskCheck_any (t : Task) (A : Option Addr) (c : Nat) (w : World) (hl : t.starts.length ≤ c) (hc : c ≤ maxLen) (hs : Kn.Sl (Kn.int .i64) w A t.starts) :
    Calls Tryz.prog 80 #[t.val A c] w fun e w' => e = .returned (.int .i64 t.err) ∧ Below w.heap.size w w' := by
  unfold maxLen at hc
  have HS := Lib.hid hs
  clear hs
  simp only [Task.val]
  go_enter Tryz.func80, Tryz.ntmps80
  go_upto_region 1 with fail
  go_cut [3] (fun s3 wx => (∃ b : Bool, s3 = .bool b ∧ Hid (b = t.b1)) ∧ wx = w.alloc (t.obj A c))
  case first =>
    go_wp2_with (go_at_call 148; refine (taskIn_any _ _ _ _).mono ?_; rintro e w' ⟨rfl, rfl⟩)
    all_goals (go_meet; exact ⟨⟨_, rfl, by unfold Hid Task.b1; first | (simp [*, ← mTick_eq]; done) | (simp [*, ← mTick_eq]; intros; omega)⟩, rfl⟩)
  case rest =>
    obtain ⟨⟨b, rfl, hb⟩, rfl⟩ := hcut
    unfold Task.obj
    go_wp2_with fail
    go_loop [3, 34] (fun s i => ∃ (k : Nat) (b' : Bool), k ≤ t.starts.length ∧ i = .int .i64 k ∧ s = .bool b' ∧ Hid (b' = (b && startsTo t.starts k))) (fun _ i => t.starts.length - (intOf i).toNat)
    case atStart => exact ⟨0, b, Nat.zero_le _, rfl, rfl, by unfold Hid; simp [startsTo]⟩
    case round =>
      obtain ⟨k, b', hk, rfl, rfl, hb'⟩ := hrel
      by_cases hlt : k < t.starts.length
      · obtain ⟨bl, off, rfl, hbl, hcell⟩ := HS.out.ints (by omega)
        have hc0 := hcell k hlt
        obtain ⟨x, hx⟩ : ∃ x, x = t.starts.getD k 0 := ⟨_, rfl⟩
        rw [← hx] at hc0
        have hst := starts_step hb'.out hx
        have HST := Lib.hid hst
        clear hst hx hb'
        cases b'
        · clear hcell HS
          go_wp2_with fail
          go_round
          case rel => exact ⟨k + 1, false, by omega, by go_num, rfl, by unfold Hid; rw [HST.out, Bool.false_and]⟩
          case measure => simp [intOf]; omega
        · by_cases hk0 : k = 0
          · have hz : ((k : Int) == 0) = true := beq_true_of (by omega)
            clear hcell HS hk0
            go_wp2_with (go_at_call 148; refine (taskIn_any _ _ _ _).mono ?_; rintro e w' ⟨rfl, rfl⟩)
            all_goals
              go_round
              case rel => exact ⟨k + 1, _, by omega, by go_num, rfl, by unfold Hid; rw [HST.out]; simp [startOk, ← mTick_eq, *]⟩
              case measure => simp [intOf]; omega
          · have hz : ((k : Int) == 0) = false := beq_false_of (by omega)
            have hc1 := hcell (k - 1) (by omega)
            have h1k : (1 : Int) ≤ k := by omega
            obtain ⟨y, hy⟩ : ∃ y, y = t.starts.getD (k - 1) 0 := ⟨_, rfl⟩
            rw [← hy] at hc1
            have HY := Lib.hid hy
            clear hcell HS hk0 hy
            go_wp2_with (go_at_call 148; refine (taskIn_any _ _ _ _).mono ?_; rintro e w' ⟨rfl, rfl⟩)
            all_goals
              go_round
              case rel => exact ⟨k + 1, _, by omega, by go_num, rfl, by unfold Hid; rw [HST.out]; simp only [startOk, ← HY.out]; simp [← mTick_eq, *]⟩
              case measure => simp [intOf]; omega
      · obtain rfl : k = t.starts.length := by omega
        clear HS
        obtain ⟨b2, hb2⟩ : ∃ b2, b2 = (b && startsTo t.starts t.starts.length) := ⟨_, rfl⟩
        obtain rfl : b' = b2 := hb'.out.trans hb2.symm
        have HB2 := Lib.hid hb2
        clear hb2 hb'
        go_upto_if 61 with fail
        go_cut [3] (fun s3 wx => (∃ b3 : Bool, s3 = .bool b3 ∧ Hid (b3 = t.b3 b')) ∧ wx = w.alloc (t.obj A c))
        case first =>
          cases h0 : (t.state == 0) <;> cases b' <;> cases h1 : (t.inc == 0) <;> cases h2 : (t.code == 0)
          all_goals
            go_wp2_with fail
            all_goals (go_meet; exact ⟨⟨_, rfl, by unfold Hid Task.b3; simp [h0, h1, h2]⟩, rfl⟩)
        case rest =>
          obtain ⟨⟨b3, rfl, hb3⟩, rfl⟩ := hcut
          unfold Task.obj
          go_upto_if 75 with fail
          go_cut [3] (fun s3 wx => (∃ b4 : Bool, s3 = .bool b4 ∧ Hid (b4 = t.b4 b3)) ∧ wx = w.alloc (t.obj A c))
          case first =>
            cases h0 : (t.inc == 0) <;> cases b3 <;> cases h1 : (t.state == 0) <;> cases h2 : (t.state == 6)
            all_goals
              go_wp2_with fail
              all_goals (go_meet; exact ⟨⟨_, rfl, by unfold Hid Task.b4; simp [h0, h1, h2]⟩, rfl⟩)
          case rest =>
            obtain ⟨⟨b4, rfl, hb4⟩, rfl⟩ := hcut
            unfold Task.obj
            go_upto_region 11 with fail
            go_cut [6] (fun s6 wx => (∃ p : Bool, s6 = .bool p ∧ Hid (p = t.has)) ∧ wx = w.alloc (t.obj A c))
            case first =>
              cases h0 : (t.state == 2) <;> cases h1 : (t.state == 4) <;> cases h2 : (t.state == 5)
              all_goals
                go_wp2_with fail
                all_goals (go_meet; exact ⟨⟨_, rfl, by unfold Hid Task.has; simp [h0, h1, h2]⟩, rfl⟩)
            case rest =>
              obtain ⟨⟨p, rfl, hp⟩, rfl⟩ := hcut
              unfold Task.obj
              go_upto_region 12 with fail
              go_cut [3] (fun s3 wx => (∃ b5 : Bool, s3 = .bool b5 ∧ Hid (b5 = t.b5 b4)) ∧ wx = w.alloc (t.obj A c))
              case first =>
                cases b4
                all_goals
                  go_wp2_with (go_at_call 149; refine (taskOnly_any _ _ _ _).mono ?_; rintro e w' ⟨rfl, rfl⟩)
                  all_goals (go_meet; exact ⟨⟨_, rfl, by unfold Hid Task.b5; rw [← hp.out]; simp [← mTick_eq, *]⟩, rfl⟩)
              case rest =>
                obtain ⟨⟨b5, rfl, hb5⟩, rfl⟩ := hcut
                unfold Task.obj
                go_upto_region 13 with fail
                go_cut [3] (fun s3 wx => (∃ b6 : Bool, s3 = .bool b6 ∧ Hid (b6 = t.b6 b5)) ∧ wx = w.alloc (t.obj A c))
                case first =>
                  cases b5
                  all_goals
                    go_wp2_with (go_at_call 149; refine (taskOnly_any _ _ _ _).mono ?_; rintro e w' ⟨rfl, rfl⟩)
                    all_goals (go_meet; exact ⟨⟨_, rfl, by unfold Hid Task.b6; simp [← mTick2_eq, *]⟩, rfl⟩)
                case rest =>
                  obtain ⟨⟨b6, rfl, hb6⟩, rfl⟩ := hcut
                  unfold Task.obj
                  have hfin : t.ok = b6 := by rw [hb6.out, hb5.out, hb4.out, hb3.out, HB2.out, hb.out]; rfl
                  have HF := Lib.hid hfin
                  clear hfin hb6 hb5 hb4 hb3 hb HB2 hp
                  cases b6
                  all_goals
                    go_wp2_with fail
                    go_ret
                    exact ⟨ret_int (by unfold Task.err; rw [HF.out]; rfl), (Below.refl _ _).alloc (Nat.le_refl _) _⟩
end Go.Proofs.YtdblhmpcilihnaaGreat
