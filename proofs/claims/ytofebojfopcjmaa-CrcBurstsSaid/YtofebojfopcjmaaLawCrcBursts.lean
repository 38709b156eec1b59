/- CrcBursts: for every input the law returns true and the input reads as it did. No condition beyond the given statement. -/
import Derived.Test.YtofebojfopcjmaaRows
import Derived.WalkKit
import Derived.Deep.RegionHeld3
import Derived.WalkLawsBesides
import Derived.WalkSpells
import Derived.ProofKit
import Derived.OpenShut
import Derived.ShutString
import Derived.Test.YtofebojfopcjmaaCrcFlip
namespace Go.Proofs.Ytofebojfopcjmaa.crcBursts
open Go.ChangeShapes Go.WideShapes Go.ChangeAt Go.RowKit
open Go.ChangeMaps (open_string shut_string)
set_option linter.unusedVariables false      -- a walk need not use every 'w<i>' (that an integer argument fits its kind)

theorem own : ownKnob Try.prog.godebug = none := by kernel_rfl

/-! ### STEP 1: THE WALK: the Go text returns true. 'Below w.heap.size w w'': the world has at most new blocks (Derived/RowKit3.lean). Part the cases AHEAD of 'go_enter' where a test parts the walk; take each callee by a contract of your own. -/
set_option maxHeartbeats 1000000 in
theorem walk (a0 : ByteArray) (a1 : Int) (a2 : Int) (w0 : a0.size ≤ maxLen) (w1 : (Lit.int .u16 a1).wf = true) (w2 : (Lit.int .u32 a2).wf = true) (w : World) :
    Calls Try.prog 6 #[.string a0, .int .u16 a1, .int .u32 a2] w fun e w' => e = .returned (.bool true) ∧ Below w.heap.size w w' := by
  obtain ⟨o, rfl⟩ := u32_bv w2
  have b1 : 0 ≤ a1 := by have := wf_u16 w1; omega
  have b1' : a1 ≤ 65535 := by have := wf_u16 w1; omega
  clear w1 w2
  by_cases h : 1000 < a0.size
  · go_enter Try.func6, Try.ntmps6
    go_wp2_with fail
    refine (known_any _).mono ?_
    rintro e w' ⟨rfl, hb⟩
    go_wp2_with fail
    go_ret
    exact ⟨rfl, hb⟩
  · by_cases hz : a0.size = 0
    · have hz' : ((a0.size : Int) == 0) = true := by rw [hz]; rfl
      have HZ := Lib.hid hz
      clear hz
      go_enter Try.func6, Try.ntmps6
      go_wp2_with fail
      refine (known_any _).mono ?_
      rintro e w' ⟨rfl, hb⟩
      go_wp2_with fail
      go_ret
      exact ⟨rfl, hb⟩
    · have hz' : ((a0.size : Int) == 0) = false := by rw [beq_eq_false_iff_ne]; omega
      have hz1 : (1 : Int) ≤ a0.size := by omega
      clear hz
      have hcv := Lib.run_convert_string_bytes (P := Try.prog) w 9 29 5 a0 Try.underlying9 Try.underlying29 Try.underlying5
      have c1 : 0 ≤ a1 % (8 * (a0.size : Int)) := Int.emod_nonneg _ (by omega)
      have c1' : a1 % (8 * (a0.size : Int)) < 8 * (a0.size : Int) := Int.emod_lt_of_pos a1 (by omega)
      go_enter Try.func6, Try.ntmps6
      go_wp2_with fail
      clear hcv
      obtain ⟨F, hF⟩ : ∃ F : Nat, a1 % (8 * (a0.size : Int)) = (F : Int) := ⟨_, (Int.toNat_of_nonneg c1).symm⟩
      rw [hF] at c1' ⊢
      rw [bits_or1]
      have hB := or1_bit o
      generalize o ||| 1#32 = B at hB ⊢
      have HB := Lib.hid hB
      clear hB hF c1 b1 b1'
      go_loopw [9] (fun i wr => ∃ k : Nat, k ≤ 32 ∧ F + k ≤ 8 * a0.size ∧ i = .int .i64 k ∧ ByteRow wr w.heap.size (flips a0.data.toList F B k) ∧ Below w.heap.size w wr) (fun i _ => 32 - (intOf i).toNat)
      case atStart => exact ⟨0, by omega, by omega, rfl, ByteRow.made _ _ _, below_made _ _ _⟩
      case round =>
        obtain ⟨k, hk, hk2, rfl, hrow, hb⟩ := hrel
        by_cases hlt : k < 32 ∧ F + k < 8 * a0.size
        · obtain ⟨hl1, hl2⟩ := hlt
          cases ht : (Go.bits .and .u32 ((B.toNat : Int) / 2 ^ k) 1 == 1)
          · go_wp2_with fail
            go_roundw
            case rel => exact ⟨k + 1, by omega, by omega, by go_num, by rw [flips_no _ _ _ _ ht]; exact hrow, hb⟩
            case measure => simp [intOf]; omega
          · have hd : (F + k) / 8 < (flips a0.data.toList F B k).length := by rw [flips_length]; have : a0.data.toList.length = a0.size := rfl; omega
            obtain ⟨x, hx⟩ : ∃ x, (flips a0.data.toList F B k)[(F + k) / 8]? = some x := ⟨_, List.getElem?_eq_getElem hd⟩
            have hc := hrow.cell _ _ hx
            have hf := hrow.frozen _ hd
            have l1 : ((F : Int) + k) / 8 < a0.size := by omega
            have l2 : 0 ≤ ((F : Int) + k) / 8 := by omega
            have l3 : (((F : Int) + k) / 8).toNat = (F + k) / 8 := by omega
            have hrow' := Lib.hid hrow
            have hx' := Lib.hid hx
            clear hrow hx hd
            go_wp2_with fail
            go_roundw
            case rel => exact ⟨k + 1, by omega, by omega, by go_num, flips_yes ht hx'.out hrow'.out, hb.setCell (by simp) _⟩
            case measure => simp [intOf]; omega
        · have hk0 : 0 < k := by omega
          have hE := burst_ne a0 F B k hk2 HB.out hk0 hk
          have hl : (flips a0.data.toList F B k).length = a0.size := flips_length _ _ _ _
          have hxm : (⟨(flips a0.data.toList F B k).toArray⟩ : ByteArray).size ≤ maxLen := by show (flips a0.data.toList F B k).length ≤ maxLen; rw [hl]; exact w0
          have hcv := hrow.conv (P := Try.prog) 29 9 5 a0.size (grownCap w a0.size 0 5) hl.symm Try.underlying29 Try.underlying5 Try.underlying9
          generalize (⟨(flips a0.data.toList F B k).toArray⟩ : ByteArray) = X at hE hxm hcv
          have HXm := Lib.hid hxm
          clear hxm hl hrow HB
          go_wp2_with fail
          all_goals
            refine (sum_any _ HXm.out _).mono ?_
            rintro e w1 ⟨rfl, hb1⟩
            go_wp2_with fail
            refine (sum_any _ w0 _).mono ?_
            rintro e w2 ⟨rfl, hb2⟩
            go_wp2_with fail
            refine (known_any _).mono ?_
            rintro e w3 ⟨rfl, hb3⟩
            go_wp2_with fail
            go_ret
            exact ⟨rfl, by repeat (first | assumption | exact Below.drew (by assumption) | refine Below.next ?_ (by assumption))⟩

/-! ### THE ROW's STEP: WRITTEN OUT: LEAVE IT -/
set_option maxRecDepth 100000 in
theorem lifted (os : Os) (started : os.Started) (H : Type) (enc : TypeId × Value → H) :
    ReturnsInHanded {} Try.checked os 6 .any (Rows.crcBurstsSpec.pre6 enc Try.prog Try.f6 Rows.crcBurstsRow.domain false) (Rows.crcBurstsSpec.post enc Try.prog Try.f6 false true false false) := by
  refine returnsInHanded_of_change (C := Try.checked) own started (by kernel_rfl) Try.func6
    (ChangeSpec.witness6 (enc := enc) (C := Try.checked) false ⟨#[], #[.string ByteArray.empty, .int .u16 0, .int .u32 0], []⟩ 8 (by kernel_rfl) (by kernel_rfl) (by kernel_rfl) (by kernel_rfl)) ?_
  intro W base args ds gs before hval0 hW hcnd _
  have hval : ∀ (j : Nat) t v, Try.f6.params[j]? = some t → args[j]? = some v → Value.okWide Try.prog W .any base t v := hval0
  have hW' := hW
  obtain ⟨p, q, hA0, hV, rfl, hfz, hnd⟩ := hW
  have hA : DataW.TrodAll enc Try.prog W 0 (fun _ => true) true Try.f6.params.toList args.toList ds p := hA0
  rw [Try.params6] at hA hval
  obtain ⟨v0, vs0, d0, ds0, p0, q0, hargs, rfl, rfl, h0, r0⟩ := trodAll_cons hA
  obtain ⟨v1, vs1, d1, ds1, p1, q1, rfl, rfl, rfl, h1, r1⟩ := trodAll_cons r0
  obtain ⟨v2, vs2, d2, ds2, p2, q2, rfl, rfl, rfl, h2, r2⟩ := trodAll_cons r1
  obtain ⟨rfl, rfl, rfl⟩ := trodAll_nil r2
  obtain rfl : args = #[v0, v1, v2] := by cases args; simp_all
  obtain ⟨rfl, rfl⟩ := trodVars_none hV
  obtain ⟨a0, rfl, rfl, rfl, w0⟩ := open_string Try.underlying9 (hval 0 9 v0 rfl rfl) h0
  obtain ⟨a1, rfl, rfl, rfl, w1⟩ := open_int Try.underlying27 (hval 1 27 v1 rfl rfl) h1
  obtain ⟨a2, rfl, rfl, rfl, w2⟩ := open_int Try.underlying22 (hval 2 22 v2 rfl rfl) h2
  clear hA0 hval0
  simp only [List.append_nil] at hW'
  refine (walk a0 a1 a2 w0 w1 w2 W).mono fun e W' ⟨he, hg⟩ => ?_
  subst he
  exact ⟨_, rfl, post_of_below (pa := []) (pv := []) hW' (fun _ _ _ => (trodAll_cons_mk (shut_bool Try.underlying4 _) trodAll_mk0)) (fun sp _ => (trodAll_cons_mk (shut_string Try.underlying9 w0) (trodAll_cons_mk (shut_int Try.underlying27 w1) (trodAll_cons_mk (shut_int Try.underlying22 w2) trodAll_mk0)))) (fun _ _ => rfl) rfl
    hg (ok_one (by kernel_rfl) rfl (okWide_bool_mk Try.underlying4 _))⟩

theorem over : Rows.crcBurstsRow.holds Try.pinned (OpenSpec.ofChange Rows.crcBurstsSpec) :=
  OpenClaim.holds_of_wide 6 Try.f6 rfl rfl rfl rfl rfl rfl rfl ⟨rfl, rfl, rfl, rfl, rfl⟩ rfl rfl rfl rfl rfl (by kernel_rfl) Try.func6 (by kernel_rfl)
    (of_decide_eq_true (by kernel_rfl)) (by unfold Func.isWrapper; first | (rw [if_pos (by decide +kernel)]; kernel_rfl) | (rw [if_neg (by decide +kernel)]; exact ⟨rfl, rfl⟩))
    (fun os started H enc _ => lifted os started H enc)

/-- ████ THE STATEMENT ████ -/
theorem proved : Rows.CrcBurstsSaid :=
  over
#print axioms proved
end Go.Proofs.Ytofebojfopcjmaa.crcBursts
