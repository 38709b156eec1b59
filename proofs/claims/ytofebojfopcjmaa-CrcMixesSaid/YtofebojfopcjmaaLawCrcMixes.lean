/- CrcMixes: for every input the law returns true and the input reads as it did. No condition beyond the given statement. -/
import Derived.Test.YtofebojfopcjmaaRows
import Derived.WalkKit
import Derived.Deep.RegionHeld3
import Derived.WalkLawsBesides
import Derived.WalkSpells
import Derived.ProofKit
import Derived.OpenShut
import Derived.ShutString
import Derived.Test.YtofebojfopcjmaaCrcMix
namespace Go.Proofs.Ytofebojfopcjmaa.crcMixes
open Go.ChangeShapes Go.WideShapes Go.ChangeAt Go.RowKit
open Go.ChangeMaps (open_string shut_string)
set_option linter.unusedVariables false      -- a walk need not use every 'w<i>' (that an integer argument fits its kind)

theorem own : ownKnob Try.prog.godebug = none := by kernel_rfl

/-! ### STEP 1: THE WALK: the Go text returns true. 'Below w.heap.size w w'': the world has at most new blocks (Derived/RowKit3.lean). Part the cases AHEAD of 'go_enter' where a test parts the walk; take each callee by a contract of your own. -/
set_option maxHeartbeats 1000000 in
theorem walk (a0 : ByteArray) (a1 : ByteArray) (a2 : ByteArray) (w0 : a0.size ≤ maxLen) (w1 : a1.size ≤ maxLen) (w2 : a2.size ≤ maxLen) (w : World) :
    Calls Try.prog 7 #[.string a0, .string a1, .string a2] w fun e w' => e = .returned (.bool true) ∧ Below w.heap.size w w' := by
  unfold maxLen at w0 w1 w2
  obtain ⟨n, hn0, hn1, hn2, hn3⟩ : ∃ n : Nat, (if (a2.size : Int) < (if a1.size < a0.size then (a1.size : Int) else a0.size) then (a2.size : Int) else (if a1.size < a0.size then (a1.size : Int) else a0.size)) = (n : Int) ∧ n ≤ a0.size ∧ n ≤ a1.size ∧ n ≤ a2.size := by
    refine ⟨min (min a0.size a1.size) a2.size, ?_, by omega, by omega, by omega⟩
    split <;> split <;> omega
  by_cases h : 1000 < n
  · go_enter Try.func7, Try.ntmps7
    go_wp2_with fail
    refine (known_any _).mono ?_
    rintro e w' ⟨rfl, hb⟩
    go_wp2_with fail
    go_ret
    exact ⟨rfl, hb⟩
  · have hm := fun W : World => run_make_row' (P := Try.prog) 29 5 _ 1 Try.underlying29 byteInfo rfl .i64 .i64 n (by omega) (by omega) W
    go_enter Try.func7, Try.ntmps7
    go_wp2_with fail
    clear hn0 hm
    generalize hX : mixS a0 a1 a2 n = X
    have hXs : X.size = n := by rw [← hX]; exact mixS_size _ _ _ _ hn1 hn2 hn3
    have hXg := mix_get a0 a1 a2 n hn1 hn2 hn3
    rw [hX] at hXg
    have hE := mix_sums a0 a1 a2 n hn1 hn2 hn3
    rw [hX] at hE
    have HE := Lib.hid hE
    have HXg := Lib.hid hXg
    have HXs := Lib.hid hXs
    clear hX hE hXg hXs
    go_loopw [9] (fun i wr => ∃ k : Nat, k ≤ n ∧ i = .int .i64 k ∧ wr.rowIs w.heap.size 5 n (mixF X k) ∧ Below w.heap.size w wr) (fun i _ => n - (intOf i).toNat)
    case atStart => exact ⟨0, Nat.zero_le _, rfl, World.rowIs_made _ _ _ _, (Below.refl _ _).alloc (Nat.le_refl _) _⟩
    case round =>
      obtain ⟨k, hk, rfl, hrow, hb⟩ := hrel
      by_cases hlt : k < n
      · have hc := hrow.cell hlt
        have hf := hrow.frozen k
        have l0 : (k : Int) < a0.size := by omega
        have l1 : (k : Int) < a1.size := by omega
        have l2 : (k : Int) < a2.size := by omega
        have l3 : (k : Int) < n := by omega
        have l4 : (0 : Int) ≤ k := by omega
        have hrow' := Lib.hid hrow
        clear hrow
        go_wp2_with fail
        go_region
        go_wp2_with fail
        go_roundw
        case rel => exact ⟨k + 1, by omega, by go_num, by
          rw [HXg.out k hlt]
          exact ((hrow'.out.set k _).congr fun j _ => congrFun (mixF_step X k) j), (hb.setCell (by simp) _).drew⟩
        case measure => simp [intOf]; omega
      · obtain rfl : k = n := by omega
        have hR : RowStr wr w.heap.size X := by
          have := hrow.congr (mixF_end X k)
          unfold RowStr
          rw [HXs.out]; exact this
        have hR2 := hR.conv k HXs.out.symm
        have p0 : (0 : Int) ≤ k := by omega
        have p1 : (k : Int) ≤ a0.size := by omega
        have p2 : (k : Int) ≤ a1.size := by omega
        have p3 : (k : Int) ≤ a2.size := by omega
        have hxm : X.size ≤ maxLen := by rw [HXs.out]; simp only [maxLen]; omega
        have HXm := Lib.hid hxm
        have hE := HE.out
        clear hrow hxm
        have w0' : a0.size ≤ maxLen := by simp only [maxLen]; omega
        have w1' : a1.size ≤ maxLen := by simp only [maxLen]; omega
        have w2' : a2.size ≤ maxLen := by simp only [maxLen]; omega
        go_wp2_with fail
        go_region_held3 (fun w' => RowStr w' w.heap.size X ∧ (convert 29 9 (.slice (some ⟨w.heap.size, 0, none⟩) k k)).run Try.prog w' = .ok (.string X) w') (first
            | exact ⟨hR, hR2⟩ | exact ⟨RowStr.drew hR, (RowStr.drew hR).conv k HXs.out.symm⟩
            | exact keepRow HXs.out.symm (by assumption) (by assumption)) (first
          | (go_at_call 10; (with_reducible refine (sum_any _ (le_max _ _ _ w0') _).mono ?_); rintro e w1 ⟨rfl, hb1⟩)
          | (go_at_call 10; (with_reducible refine (sum_any _ (le_max _ _ _ w1') _).mono ?_); rintro e w1 ⟨rfl, hb1⟩)
          | (go_at_call 10; (with_reducible refine (sum_any _ (le_max _ _ _ w2') _).mono ?_); rintro e w1 ⟨rfl, hb1⟩)
          | (go_at_call 10; (with_reducible refine (sum_any _ HXm.out _).mono ?_); rintro e w1 ⟨rfl, hb1⟩)
          | (go_at_call 9; refine (known_any _).mono ?_; rintro e w3 ⟨rfl, hb3⟩))
        go_wp2_with fail
        go_ret
        exact ⟨rfl, by repeat (first | assumption | exact Below.drew (by assumption) | refine Below.next ?_ (by assumption))⟩

/-! ### THE ROW's STEP: WRITTEN OUT: LEAVE IT -/
set_option maxRecDepth 100000 in
theorem lifted (os : Os) (started : os.Started) (H : Type) (enc : TypeId × Value → H) :
    ReturnsInHanded {} Try.checked os 7 .any (Rows.crcMixesSpec.pre6 enc Try.prog Try.f7 Rows.crcMixesRow.domain false) (Rows.crcMixesSpec.post enc Try.prog Try.f7 false true false false) := by
  refine returnsInHanded_of_change (C := Try.checked) own started (by kernel_rfl) Try.func7
    (ChangeSpec.witness6 (enc := enc) (C := Try.checked) false ⟨#[], #[.string ByteArray.empty, .string ByteArray.empty, .string ByteArray.empty], []⟩ 8 (by kernel_rfl) (by kernel_rfl) (by kernel_rfl) (by kernel_rfl)) ?_
  intro W base args ds gs before hval0 hW hcnd _
  have hval : ∀ (j : Nat) t v, Try.f7.params[j]? = some t → args[j]? = some v → Value.okWide Try.prog W .any base t v := hval0
  have hW' := hW
  obtain ⟨p, q, hA0, hV, rfl, hfz, hnd⟩ := hW
  have hA : DataW.TrodAll enc Try.prog W 0 (fun _ => true) true Try.f7.params.toList args.toList ds p := hA0
  rw [Try.params7] at hA hval
  obtain ⟨v0, vs0, d0, ds0, p0, q0, hargs, rfl, rfl, h0, r0⟩ := trodAll_cons hA
  obtain ⟨v1, vs1, d1, ds1, p1, q1, rfl, rfl, rfl, h1, r1⟩ := trodAll_cons r0
  obtain ⟨v2, vs2, d2, ds2, p2, q2, rfl, rfl, rfl, h2, r2⟩ := trodAll_cons r1
  obtain ⟨rfl, rfl, rfl⟩ := trodAll_nil r2
  obtain rfl : args = #[v0, v1, v2] := by cases args; simp_all
  obtain ⟨rfl, rfl⟩ := trodVars_none hV
  obtain ⟨a0, rfl, rfl, rfl, w0⟩ := open_string Try.underlying9 (hval 0 9 v0 rfl rfl) h0
  obtain ⟨a1, rfl, rfl, rfl, w1⟩ := open_string Try.underlying9 (hval 1 9 v1 rfl rfl) h1
  obtain ⟨a2, rfl, rfl, rfl, w2⟩ := open_string Try.underlying9 (hval 2 9 v2 rfl rfl) h2
  clear hA0 hval0
  simp only [List.append_nil] at hW'
  refine (walk a0 a1 a2 w0 w1 w2 W).mono fun e W' ⟨he, hg⟩ => ?_
  subst he
  exact ⟨_, rfl, post_of_below (pa := []) (pv := []) hW' (fun _ _ _ => (trodAll_cons_mk (shut_bool Try.underlying4 _) trodAll_mk0)) (fun sp _ => (trodAll_cons_mk (shut_string Try.underlying9 w0) (trodAll_cons_mk (shut_string Try.underlying9 w1) (trodAll_cons_mk (shut_string Try.underlying9 w2) trodAll_mk0)))) (fun _ _ => rfl) rfl
    hg (ok_one (by kernel_rfl) rfl (okWide_bool_mk Try.underlying4 _))⟩

theorem over : Rows.crcMixesRow.holds Try.pinned (OpenSpec.ofChange Rows.crcMixesSpec) :=
  OpenClaim.holds_of_wide 7 Try.f7 rfl rfl rfl rfl rfl rfl rfl ⟨rfl, rfl, rfl, rfl, rfl⟩ rfl rfl rfl rfl rfl (by kernel_rfl) Try.func7 (by kernel_rfl)
    (of_decide_eq_true (by kernel_rfl)) (by unfold Func.isWrapper; first | (rw [if_pos (by decide +kernel)]; kernel_rfl) | (rw [if_neg (by decide +kernel)]; exact ⟨rfl, rfl⟩))
    (fun os started H enc _ => lifted os started H enc)

/-- ████ THE STATEMENT ████ -/
theorem proved : Rows.CrcMixesSaid :=
  over
#print axioms proved
end Go.Proofs.Ytofebojfopcjmaa.crcMixes
