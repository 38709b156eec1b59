/- The program's More and the reference's: what they return, by walks. -/
import Derived.Test.YtofebojfopcjmaaRows
import Derived.Test.YtofebojfopcjmaaCrcPure
import Derived.Test.YtofebojfopcjmaaWords
import Derived.WalkKit
import Derived.ProofKit
import Derived.OpenShut
import Derived.ShutString
import Derived.Lib.Hide
namespace Go.Proofs.Ytofebojfopcjmaa
open Go.ChangeShapes Go.WideShapes Go.ChangeAt Go.RowKit

theorem max_u32 : IntKind.u32.max = 4294967295 := by decide
theorem bits_xor (a b : BitVec 32) : Go.bits .xor .u32 (a.toNat : Int) (b.toNat : Int) = ((a ^^^ b).toNat : Int) := by
  show IntKind.u32.wrap ((BitVec.ofInt 32 (a.toNat : Int) ^^^ BitVec.ofInt 32 (b.toNat : Int)).toNat : Int) = _
  rw [BitVec.ofInt_natCast, BitVec.ofInt_natCast, BitVec.ofNat_toNat, BitVec.ofNat_toNat]
  simp only [BitVec.setWidth_eq]
  have := (a ^^^ b).isLt
  rw [IntKind.wrap_u32]
  omega
theorem bits_not (c : BitVec 32) : Go.bits .xor .u32 IntKind.u32.max (c.toNat : Int) = ((~~~c).toNat : Int) := by
  rw [max_u32, show (4294967295 : Int) = ((4294967295#32).toNat : Int) from rfl, bits_xor, show (4294967295#32) = BitVec.allOnes 32 by decide, BitVec.allOnes_xor]
theorem bits_and1 (a : BitVec 32) : Go.bits .and .u32 (a.toNat : Int) 1 = ((Crc.bit (a.getLsbD 0)).toNat : Int) := by
  rw [show (1 : Int) = ((1#32).toNat : Int) from rfl]
  show IntKind.u32.wrap ((BitVec.ofInt 32 (a.toNat : Int) &&& BitVec.ofInt 32 ((1#32).toNat : Int)).toNat : Int) = _
  rw [BitVec.ofInt_natCast, BitVec.ofInt_natCast, BitVec.ofNat_toNat, BitVec.ofNat_toNat]
  simp only [BitVec.setWidth_eq]
  have e : a &&& 1#32 = Crc.bit (a.getLsbD 0) := by
    apply BitVec.eq_of_getLsbD_eq
    intro i hi
    rw [BitVec.getLsbD_and, BitVec.getLsbD_one]
    rcases Nat.eq_zero_or_pos i with rfl | h
    · cases h : a.getLsbD 0 <;> simp [Crc.bit]
    · rw [Crc.bit_high _ _ h]; simp; omega
  rw [e]
  cases a.getLsbD 0 <;> rfl

theorem half_ (r : BitVec 32) : (r.toNat : Int) / 2 = ((r >>> (1 : Nat)).toNat : Int) := by rw [BitVec.toNat_ushiftRight, Nat.shiftRight_eq_div_pow]; omega
theorem mix_0 (r : BitVec 32) (b : Bool) : (r ^^^ Crc.bit b) >>> 1 = r >>> 1 := by
  rw [BitVec.ushiftRight_xor_distrib]
  cases b
  · simp [Crc.bit]
  · rw [show Crc.bit true >>> 1 = 0#32 by decide]; simp
theorem mix_bit (r : BitVec 32) (b : Bool) : (r ^^^ Crc.bit b).getLsbD 0 = (r.getLsbD 0 ^^ b) := by
  rw [BitVec.getLsbD_xor]; cases b <;> simp [Crc.bit]
theorem bit_inj (a b : Bool) : (((Crc.bit a).toNat : Int) != ((Crc.bit b).toNat : Int)) = (a ^^ b) := by cases a <;> cases b <;> decide
theorem close_yes (r : BitVec 32) (b : Bool) (h : (Go.bits .and .u32 (r.toNat : Int) 1 != ((Crc.bit b).toNat : Int)) = true) :
    Go.bits .xor .u32 ((r.toNat : Int) / 2) 3988292384 = ((Crc.step r b).toNat : Int) := by
  rw [bits_and1, bit_inj] at h
  rw [half_ r, show (3988292384 : Int) = (Crc.poly.toNat : Int) by decide, bits_xor, Crc.step, Crc.L, mix_bit, h, mix_0]
  rfl
theorem close_no (r : BitVec 32) (b : Bool) (h : (Go.bits .and .u32 (r.toNat : Int) 1 != ((Crc.bit b).toNat : Int)) = false) :
    (r.toNat : Int) / 2 = ((Crc.step r b).toNat : Int) := by
  rw [bits_and1, bit_inj] at h
  rw [half_ r, Crc.step, Crc.L, mix_bit, h, mix_0]
  rfl
theorem close_any (r : BitVec 32) (b : Bool) (g : Nat) (w : World) (hr : w.heap[g]? = some (.cells #[.int .u32 (r.toNat : Int)] 22 (0, 0))) :
    Calls Try.prog 15 #[.int .u32 ((Crc.bit b).toNat : Int), .pointer (some ⟨g, 0, none⟩)] w fun e w' => e = .returned (.tuple #[]) ∧ w' = w.setCell ⟨g, 0, none⟩ (.int .u32 ((Crc.step r b).toNat : Int)) := by
  have hc := cell_of_one hr
  have hf := free_of_one hr
  have HR := Lib.hid hr
  clear hr
  go_enter Try.func15, Try.ntmps15
  go_wp2
  all_goals go_end0
  all_goals refine ⟨rfl, ?_⟩
  · rw [setCell_setCell, close_yes r b (by assumption)]
  · rw [close_no r b (by assumption)]

theorem bit_at (n q : Nat) (hn : n < 256) : Go.bits .and .u32 ((n : Int) % 4294967296 / 2 ^ q) 1 = ((Crc.bit (n.testBit q)).toNat : Int) := by
  have e : (n : Int) % 4294967296 / 2 ^ q = ((BitVec.ofNat 32 (n / 2 ^ q)).toNat : Int) := by
    rw [BitVec.toNat_ofNat]
    have h1 : n / 2 ^ q ≤ n := Nat.div_le_self _ _
    rw [Nat.mod_eq_of_lt (by omega), Int.natCast_ediv, Int.natCast_pow]
    congr 1
    omega
  rw [e, bits_and1]
  congr 3
  rw [BitVec.getLsbD_ofNat, Nat.testBit_div_two_pow]
  simp
theorem close_at (r : BitVec 32) (n q : Nat) (hn : n < 256) (g : Nat) (w : World) (hr : w.heap[g]? = some (.cells #[.int .u32 (r.toNat : Int)] 22 (0, 0))) :
    Calls Try.prog 15 #[.int .u32 (Go.bits .and .u32 ((n : Int) % 4294967296 / 2 ^ q) 1), .pointer (some ⟨g, 0, none⟩)] w fun e w' => e = .returned (.tuple #[]) ∧ w' = w.setCell ⟨g, 0, none⟩ (.int .u32 ((Crc.step r (n.testBit q)).toNat : Int)) := by
  rw [bit_at n q hn]; exact close_any r _ g w hr
theorem take_snoc (s : ByteArray) (k : Nat) (h : k < s.size) : s.data.toList.take (k + 1) = s.data.toList.take k ++ [s[k]] := by
  rw [List.take_succ_eq_append_getElem (by simpa using h)]; rfl
theorem feed_round (R : BitVec 32) (c : UInt8) (q : Nat) (hq : q < 8) : Crc.step (Crc.feed R ((Crc.bits c).take q)) (c.toNat.testBit q) = Crc.feed R ((Crc.bits c).take (q + 1)) := by
  rw [List.take_succ_eq_append_getElem (by rw [Crc.bits_length]; exact hq), Crc.feed_append]
  simp [Crc.feed, Crc.bits]

set_option maxHeartbeats 400000 in
theorem more_any (c : BitVec 32) (s : ByteArray) (hs : s.size ≤ maxLen) (w : World) :
    Calls Try.prog 12 #[.int .u32 (c.toNat : Int), .string s] w fun e w' => e = .returned (.int .u32 ((Crc.moreS c s).toNat : Int)) ∧ Below w.heap.size w w' := by
  unfold maxLen at hs
  go_enter Try.func12, Try.ntmps12
  go_wp2_with fail
  go_loopw [14] (fun i wr => ∃ (k : Nat) (R : BitVec 32), k ≤ s.size ∧ i = .int .i64 k ∧ R = Crc.feed (~~~c) (Crc.allBits (s.data.toList.take k)) ∧ wr = w.alloc (.cells #[.int .u32 (R.toNat : Int)] 22)) (fun i _ => s.size - (intOf i).toNat)
  case atStart => exact ⟨0, ~~~c, Nat.zero_le _, rfl, by simp [Crc.allBits, Crc.feed], by rw [bits_not]⟩
  case round =>
    obtain ⟨k, R, hk, rfl, hR, rfl⟩ := hrel
    have HR := Lib.hid hR
    clear hR
    by_cases hlt : k < s.size
    · go_wp2_with fail
      go_loopw [17] (fun j wr => ∃ (q : Nat) (R' : BitVec 32), q ≤ 8 ∧ j = .int .i64 q ∧ R' = Crc.feed R ((Crc.bits s[k]).take q) ∧ wr = w.alloc (.cells #[.int .u32 (R'.toNat : Int)] 22)) (fun j _ => 8 - (intOf j).toNat)
      case atStart => exact ⟨0, R, Nat.zero_le _, rfl, by simp [Crc.feed], rfl⟩
      case round =>
        obtain ⟨q, R', hq, rfl, hR', rfl⟩ := hrel
        have HR' := Lib.hid hR'
        clear hR'
        by_cases hlt' : q < 8
        · go_wp2_with fail
          refine (close_at R' s[k].toNat q (UInt8.toNat_lt _) _ _ (heap_alloc_new _ _)).mono ?_
          rintro e w' ⟨rfl, rfl⟩
          rw [setCell_new]
          go_wp2_with fail
          go_roundw
          case rel => exact ⟨q + 1, _, by omega, by go_num, by rw [HR'.out]; exact feed_round R s[k] q hlt', rfl⟩
          case measure => simp [intOf]; omega
        · go_wp2_with fail
          have e8 : R' = Crc.feed R (Crc.bits s[k]) := by rw [HR'.out, List.take_of_length_le (by rw [Crc.bits_length]; omega)]
          have E8 := Lib.hid e8
          clear e8
          go_roundw
          case rel => exact ⟨k + 1, R', by omega, by go_num, by rw [E8.out, HR.out, take_snoc s k hlt, Crc.allBits_snoc, Crc.feed_append], rfl⟩
          case measure => simp [intOf]; omega
    · go_wp2_with fail
      have e8 : R = Crc.feed (~~~c) (Crc.allBits s.data.toList) := by rw [HR.out, List.take_of_length_le (by simp; omega)]
      go_ret
      exact ⟨by rw [e8, Crc.moreS, Crc.more]; exact ret_int (bits_not _), (Below.refl _ _).alloc (Nat.le_refl _) _⟩
end Go.Proofs.Ytofebojfopcjmaa
