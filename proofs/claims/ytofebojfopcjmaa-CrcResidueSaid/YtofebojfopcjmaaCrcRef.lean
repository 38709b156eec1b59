/- The reference's More, both Sums and the fixed examples, by walks. -/
import Derived.Test.YtofebojfopcjmaaCrcWalk
namespace Go.Proofs.Ytofebojfopcjmaa
open Go.ChangeShapes Go.WideShapes Go.ChangeAt Go.RowKit

theorem ref_test (r : BitVec 32) (n q : Nat) (hn : n < 256) : (Go.bits .and .u32 (r.toNat : Int) 1 != Go.bits .and .u32 ((n : Int) % 4294967296 / 2 ^ q) 1) = (Go.bits .and .u32 (r.toNat : Int) 1 != ((Crc.bit (n.testBit q)).toNat : Int)) := by rw [bit_at n q hn]

set_option maxHeartbeats 400000 in
theorem refMore_any (c : BitVec 32) (s : ByteArray) (hs : s.size ≤ maxLen) (w : World) :
    Calls Try.prog 13 #[.int .u32 (c.toNat : Int), .string s] w fun e w' => e = .returned (.int .u32 ((Crc.moreS c s).toNat : Int)) ∧ w = w' := by
  unfold maxLen at hs
  go_enter Try.func13, Try.ntmps13
  go_wp2_with fail
  go_loop [5, 6] (fun r i => ∃ (k : Nat) (R : BitVec 32), k ≤ s.size ∧ i = .int .i64 k ∧ R = Crc.feed (~~~c) (Crc.allBits (s.data.toList.take k)) ∧ r = .int .u32 (R.toNat : Int)) (fun _ i => s.size - (intOf i).toNat)
  case atStart => exact ⟨0, ~~~c, Nat.zero_le _, rfl, by simp [Crc.allBits, Crc.feed], by rw [bits_not]⟩
  case round =>
    obtain ⟨k, R, hk, rfl, hR, rfl⟩ := hrel
    have HR := Lib.hid hR
    clear hR
    by_cases hlt : k < s.size
    · go_wp2_with fail
      go_loop [5, 7] (fun r j => ∃ (q : Nat) (R' : BitVec 32), q ≤ 8 ∧ j = .int .i64 q ∧ R' = Crc.feed R ((Crc.bits s[k]).take q) ∧ r = .int .u32 (R'.toNat : Int)) (fun _ j => 8 - (intOf j).toNat)
      case atStart => exact ⟨0, R, Nat.zero_le _, rfl, by simp [Crc.feed], rfl⟩
      case round =>
        obtain ⟨q, R', hq, rfl, hR', rfl⟩ := hrel
        have HR' := Lib.hid hR'
        clear hR'
        by_cases hlt' : q < 8
        · go_wp2_with fail
          · rename_i ht
            have e := close_yes R' _ ((ref_test R' s[k].toNat q (UInt8.toNat_lt _)).symm.trans ht)
            go_round
            case rel => exact ⟨q + 1, Crc.step R' (s[k].toNat.testBit q), by omega, by go_num, by rw [HR'.out]; exact feed_round R s[k] q hlt', by rw [e]⟩
            case measure => simp [intOf]; omega
          · rename_i ht
            have e := close_no R' _ ((ref_test R' s[k].toNat q (UInt8.toNat_lt _)).symm.trans ht)
            go_round
            case rel => exact ⟨q + 1, Crc.step R' (s[k].toNat.testBit q), by omega, by go_num, by rw [HR'.out]; exact feed_round R s[k] q hlt', by rw [e]⟩
            case measure => simp [intOf]; omega
        · go_wp2_with fail
          have e8 : R' = Crc.feed R (Crc.bits s[k]) := by rw [HR'.out, List.take_of_length_le (by rw [Crc.bits_length]; omega)]
          have E8 := Lib.hid e8
          clear e8
          go_round
          case rel => exact ⟨k + 1, R', by omega, by go_num, by rw [E8.out, HR.out, take_snoc s k hlt, Crc.allBits_snoc, Crc.feed_append], rfl⟩
          case measure => simp [intOf]; omega
    · go_wp2_with fail
      have e8 : R = Crc.feed (~~~c) (Crc.allBits s.data.toList) := by rw [HR.out, List.take_of_length_le (by simp; omega)]
      go_ret
      exact ⟨by rw [e8, Crc.moreS, Crc.more]; exact ret_int (bits_not _), rfl⟩

theorem wf_u16 {a : Int} (h : (Lit.int .u16 a).wf = true) : 0 ≤ a ∧ a ≤ 65535 := by
  simp [Lit.wf, IntKind.min, IntKind.max, IntKind.bits, IntKind.signed] at h; omega
theorem le_max (a : ByteArray) (i j : Nat) (h : a.size ≤ maxLen) : (a.extract i j).size ≤ maxLen := by
  simp only [ByteArray.size_extract]; omega
theorem extract_list (a : ByteArray) (i j : Nat) : (a.extract i j).data.toList = (a.data.toList.drop i).take (j - i) := by
  simp [ByteArray.data_extract, List.extract_eq_take_drop]
theorem moreS_join (c : BitVec 32) (a : ByteArray) (i j k : Nat) (h : i ≤ j) (h' : j ≤ k) : Crc.moreS (Crc.moreS c (a.extract i j)) (a.extract j k) = Crc.moreS c (a.extract i k) := by
  unfold Crc.moreS
  rw [Crc.more_append, extract_list, extract_list, extract_list]
  congr 1
  rw [show k - i = (j - i) + (k - j) by omega, List.take_add, List.drop_drop, show i + (j - i) = j by omega]
theorem extract_all (a : ByteArray) : a.extract 0 a.size = a := by
  apply ByteArray.ext
  rw [ByteArray.data_extract]
  exact Array.extract_size
theorem join_2 (a : ByteArray) (i : Nat) (h : i ≤ a.size) :
    ((((Crc.moreS (Crc.moreS 0#32 (a.extract 0 i)) (a.extract i a.size)).toNat : Int)) == ((Crc.moreS 0#32 a).toNat : Int)) = true := by
  rw [moreS_join _ _ _ _ _ (Nat.zero_le _) h, extract_all]; simp
theorem join_3 (a : ByteArray) (i j : Nat) (h : i ≤ j) (h' : j ≤ a.size) :
    ((((Crc.moreS (Crc.moreS (Crc.moreS 0#32 (a.extract 0 i)) (a.extract i j)) (a.extract j a.size)).toNat : Int)) == ((Crc.moreS 0#32 a).toNat : Int)) = true := by
  rw [moreS_join _ _ _ _ _ (Nat.zero_le _) h]
  exact join_2 a j h'
theorem u32_bv {a : Int} (h : (Lit.int .u32 a).wf = true) : ∃ c : BitVec 32, a = (c.toNat : Int) := by
  have hb : 0 ≤ a ∧ a < 4294967296 := by
    simp [Lit.wf, IntKind.min, IntKind.max, IntKind.bits, IntKind.signed] at h; omega
  refine ⟨BitVec.ofNat 32 a.toNat, ?_⟩
  rw [BitVec.toNat_ofNat, Nat.mod_eq_of_lt (by omega)]; omega
theorem zero_32 : (0 : Int) = ((0#32).toNat : Int) := rfl
theorem more_zero (s : ByteArray) (hs : s.size ≤ maxLen) (w : World) :
    Calls Try.prog 12 #[.int .u32 0, .string s] w fun e w' => e = .returned (.int .u32 ((Crc.moreS 0#32 s).toNat : Int)) ∧ Below w.heap.size w w' := more_any 0#32 s hs w
theorem sum_any (s : ByteArray) (hs : s.size ≤ maxLen) (w : World) :
    Calls Try.prog 10 #[.string s] w fun e w' => e = .returned (.int .u32 ((Crc.moreS 0#32 s).toNat : Int)) ∧ Below w.heap.size w w' := by
  go_enter Try.func10, Try.ntmps10
  go_wp2_with fail
  refine (more_any 0#32 s hs w).mono ?_
  rintro e w' ⟨rfl, hb⟩
  go_wp2_with fail
  go_ret
  exact ⟨rfl, hb⟩
theorem refSum_any (s : ByteArray) (hs : s.size ≤ maxLen) (w : World) :
    Calls Try.prog 11 #[.string s] w fun e w' => e = .returned (.int .u32 ((Crc.moreS 0#32 s).toNat : Int)) ∧ w = w' := by
  go_enter Try.func11, Try.ntmps11
  go_wp2_with fail
  refine (refMore_any 0#32 s hs w).mono ?_
  rintro e w' ⟨rfl, rfl⟩
  go_wp2_with fail
  go_ret
  exact ⟨rfl, rfl⟩
theorem known_any (w : World) :
    Calls Try.prog 9 #[] w fun e w' => e = .returned (.bool true) ∧ Below w.heap.size w w' := by
  have k1 : (((Crc.moreS 0#32 ⟨#[49, 50, 51, 52, 53, 54, 55, 56, 57]⟩).toNat : Int) == 3421780262) = true := by decide +kernel
  have k2 : (((Crc.moreS 0#32 ⟨#[97]⟩).toNat : Int) == 3904355907) = true := by decide +kernel
  go_enter Try.func9, Try.ntmps9
  go_wp2_with fail
  refine (sum_any _ (by decide +kernel) w).mono ?_
  rintro e w1 ⟨rfl, hb1⟩
  go_wp2_with fail
  refine (more_any 0#32 _ (by decide +kernel) w1).mono ?_
  rintro e w2 ⟨rfl, hb2⟩
  go_wp2_with fail
  go_ret
  exact ⟨rfl, hb1.trans (hb2.mono hb1.size)⟩
end Go.Proofs.Ytofebojfopcjmaa
