/- What CrcBursts needs besides the walks of the checksum: a string in which bits were turned. -/
import Derived.Test.YtofebojfopcjmaaCrcRef
import Derived.Test.YtofebojfopcjmaaBytesWords
import Derived.Deep.RegionHeld3
import Derived.RegionTactic
import Derived.WalkLawsBesides
import Derived.WalkSpells
namespace Go.Proofs.Ytofebojfopcjmaa
open Go.ChangeShapes Go.WideShapes Go.ChangeAt Go.RowKit
/-- One bit is turned. -/
def flip (l : List UInt8) (p : Nat) : List UInt8 := l.set (p / 8) (l.getD (p / 8) 0 ^^^ UInt8.ofNat (2 ^ (p % 8)))
/-- The bits of B, from bit f on, k of them. -/
def flips (l : List UInt8) (f : Nat) (B : BitVec 32) : Nat → List UInt8
  | 0 => l
  | k + 1 => if B.getLsbD k then flip (flips l f B k) (f + k) else flips l f B k
theorem flip_length (l : List UInt8) (p : Nat) : (flip l p).length = l.length := by simp [flip]
theorem flips_length (l : List UInt8) (f : Nat) (B : BitVec 32) (k : Nat) : (flips l f B k).length = l.length := by
  induction k with
  | zero => rfl
  | succ k ih => simp only [flips]; split <;> simp [flip_length, ih]
theorem allBits_get (l : List UInt8) (p : Nat) : (Crc.allBits l)[p]? = (l[p / 8]?).map fun c => c.toNat.testBit (p % 8) := by
  induction l generalizing p with
  | nil => simp [Crc.allBits]
  | cons c l ih =>
    rw [Crc.allBits_cons]
    by_cases h : p < 8
    · rw [List.getElem?_append_left (by rw [Crc.bits_length]; exact h)]
      have h0 : p / 8 = 0 := by omega
      have h1 : p % 8 = p := by omega
      rw [h0, h1]
      simp [Crc.bits, h]
    · rw [List.getElem?_append_right (by rw [Crc.bits_length]; omega), Crc.bits_length, ih]
      have h0 : p / 8 = (p - 8) / 8 + 1 := by omega
      have h1 : p % 8 = (p - 8) % 8 := by omega
      rw [h0, h1, List.getElem?_cons_succ]
theorem flip_bit (l : List UInt8) (p q : Nat) (hp : p < 8 * l.length) : (Crc.allBits (flip l p))[q]? = (Crc.allBits l)[q]?.map fun b => b ^^ decide (q = p) := by
  rw [allBits_get, allBits_get]
  unfold flip
  have hlt : p / 8 < l.length := by omega
  by_cases h : p / 8 = q / 8
  · rw [← h, List.getElem?_set_self hlt, List.getElem?_eq_getElem hlt]
    have hg : l.getD (p / 8) 0 = l[p / 8] := by simp [List.getD, hlt]
    simp only [Option.map_some, hg, UInt8.toNat_xor, Nat.testBit_xor]
    congr 1
    congr 1
    have h8 : 2 ^ (p % 8) < 256 := by
      have : p % 8 < 8 := Nat.mod_lt _ (by omega)
      calc 2 ^ (p % 8) ≤ 2 ^ 7 := Nat.pow_le_pow_right (by omega) (by omega)
        _ < 256 := by omega
    rw [UInt8.toNat_ofNat', Nat.mod_eq_of_lt h8, Nat.testBit_two_pow]
    by_cases hq : q = p
    · subst hq; simp
    · have : p % 8 ≠ q % 8 := by omega
      simp [this, hq]
  · rw [List.getElem?_set_ne h]
    have : q ≠ p := by rintro rfl; exact h rfl
    simp [this]
    rfl
theorem flips_bit (l : List UInt8) (f : Nat) (B : BitVec 32) (k q : Nat) (hk : f + k ≤ 8 * l.length) :
    (Crc.allBits (flips l f B k))[q]? = (Crc.allBits l)[q]?.map fun b => b ^^ (decide (f ≤ q ∧ q < f + k) && B.getLsbD (q - f)) := by
  induction k with
  | zero =>
    simp only [flips, Nat.add_zero]
    have : ¬ (f ≤ q ∧ q < f) := by omega
    simp [this]
  | succ k ih =>
    have ih := ih (by omega)
    simp only [flips]
    cases hB : B.getLsbD k
    · simp only [Bool.false_eq_true, if_false]
      rw [ih]
      congr 1
      funext b
      by_cases hq : q = f + k
      · subst hq
        rw [Nat.add_sub_cancel_left, hB]; simp
      · have : (f ≤ q ∧ q < f + k) ↔ (f ≤ q ∧ q < f + (k + 1)) := by omega
        simp only [this]
    · simp only [if_true]
      rw [flip_bit _ _ _ (by rw [flips_length]; omega), ih]
      simp only [Option.map_map]
      congr 1
      funext b
      simp only [Function.comp]
      by_cases hq : q = f + k
      · subst hq
        rw [Nat.add_sub_cancel_left, hB]
        simp
      · have : (f ≤ q ∧ q < f + k) ↔ (f ≤ q ∧ q < f + (k + 1)) := by omega
        simp [this, hq]
theorem flips_diff (l : List UInt8) (f : Nat) (B : BitVec 32) (k : Nat) (hk : f + k ≤ 8 * l.length) (h0 : B.getLsbD 0 = true) (hk0 : 0 < k) :
    List.zipWith Bool.xor (Crc.allBits (flips l f B k)) (Crc.allBits l) = List.replicate f false ++ (true :: (List.range (k - 1)).map fun i => B.getLsbD (i + 1)) ++ List.replicate (8 * l.length - f - k) false := by
  apply List.ext_getElem?
  intro q
  rw [List.getElem?_zipWith, flips_bit _ _ _ _ _ hk]
  have hlen : (Crc.allBits l).length = 8 * l.length := Crc.allBits_length l
  rw [List.append_assoc]
  by_cases hq : q < 8 * l.length
  · rw [List.getElem?_eq_getElem (by rw [hlen]; exact hq)]
    simp only [Option.map_some]
    generalize (Crc.allBits l)[q]'(by rw [hlen]; exact hq) = b
    by_cases h1 : q < f
    · rw [List.getElem?_append_left (by simpa using h1)]
      have : ¬ (f ≤ q ∧ q < f + k) := by omega
      simp [this, h1]
    · rw [List.getElem?_append_right (by simp; omega), List.length_replicate]
      by_cases h2 : q < f + k
      · rw [List.getElem?_append_left (by simp; omega)]
        have h3 : f ≤ q ∧ q < f + k := by omega
        rcases Nat.eq_zero_or_pos (q - f) with h4 | h4
        · rw [h4, h0]; simp [h3]
        · obtain ⟨m, hm⟩ : ∃ m, q - f = m + 1 := ⟨q - f - 1, by omega⟩
          have hm' : m < k - 1 := by omega
          rw [hm, List.getElem?_cons_succ]
          simp only [h3, decide_true, Bool.true_and, and_self]
          rw [List.getElem?_map, List.getElem?_range hm']
          cases b <;> simp
      · rw [List.getElem?_append_right (by simp; omega)]
        have : ¬ (f ≤ q ∧ q < f + k) := by omega
        rw [List.getElem?_replicate_of_lt (by simp; omega)]
        simp [this]
  · rw [List.getElem?_eq_none (by rw [hlen]; omega), List.getElem?_eq_none (by simp; omega)]
    rfl
theorem burst_ne (s : ByteArray) (f : Nat) (B : BitVec 32) (k : Nat) (hk : f + k ≤ 8 * s.size) (h0 : B.getLsbD 0 = true) (hk0 : 0 < k) (hk32 : k ≤ 32) :
    (((Crc.moreS 0#32 ⟨(flips s.data.toList f B k).toArray⟩).toNat : Int) != ((Crc.moreS 0#32 s).toNat : Int)) = true := by
  rw [bne_iff_ne]
  intro h
  have hl : s.data.toList.length = s.size := rfl
  have hn := Crc.more_ne 0#32 (flips s.data.toList f B k) s.data.toList (flips_length _ _ _ _) _ _ _ (by simp; omega) (flips_diff s.data.toList f B k (by rw [hl]; exact hk) h0 hk0)
  apply hn
  apply BitVec.eq_of_toNat_eq
  simp only [Crc.moreS] at h
  omega
theorem bits_or1 (a : BitVec 32) : Go.bits .or .u32 (a.toNat : Int) 1 = ((a ||| 1#32).toNat : Int) := by
  rw [show (1 : Int) = ((1#32).toNat : Int) from rfl]
  show IntKind.u32.wrap ((BitVec.ofInt 32 (a.toNat : Int) ||| BitVec.ofInt 32 ((1#32).toNat : Int)).toNat : Int) = _
  rw [BitVec.ofInt_natCast, BitVec.ofInt_natCast, BitVec.ofNat_toNat, BitVec.ofNat_toNat]
  simp only [BitVec.setWidth_eq]
  have := (a ||| 1#32).isLt
  rw [IntKind.wrap_u32]
  omega
theorem or1_bit (a : BitVec 32) : (a ||| 1#32).getLsbD 0 = true := by simp
theorem bit_test (B : BitVec 32) (k : Nat) : (Go.bits .and .u32 ((B.toNat : Int) / 2 ^ k) 1 == 1) = B.getLsbD k := by
  have e : (B.toNat : Int) / 2 ^ k = ((B >>> k).toNat : Int) := by
    rw [BitVec.toNat_ushiftRight, Nat.shiftRight_eq_div_pow, Int.natCast_ediv, Int.natCast_pow]; rfl
  rw [e, bits_and1, BitVec.getLsbD_ushiftRight, Nat.add_zero]
  cases B.getLsbD k <;> rfl
theorem flips_no (l : List UInt8) (f : Nat) (B : BitVec 32) (k : Nat) (h : (Go.bits .and .u32 ((B.toNat : Int) / 2 ^ k) 1 == 1) = false) : flips l f B (k + 1) = flips l f B k := by
  rw [bit_test] at h
  simp [flips, h]
theorem flips_yes {w : World} {g : Nat} {l : List UInt8} {f : Nat} {B : BitVec 32} {k : Nat} {x : UInt8} (h : (Go.bits .and .u32 ((B.toNat : Int) / 2 ^ k) 1 == 1) = true) (hx : (flips l f B k)[(f + k) / 8]? = some x)
    (hr : ByteRow w g (flips l f B k)) : ByteRow (w.setCell ⟨g, (f + k) / 8, none⟩ (.int .u8 (Go.bits .xor .u8 (x.toNat : Int) (2 ^ ((f + k) % 8) % 256)))) g (flips l f B (k + 1)) := by
  rw [bit_test] at h
  have e : ((2 : Int) ^ ((f + k) % 8) % 256) = ((UInt8.ofNat (2 ^ ((f + k) % 8))).toNat : Int) := by rw [UInt8.toNat_ofNat', Int.natCast_emod, Int.natCast_pow]; rfl
  rw [e, bits_xor_u8]
  have e2 : flips l f B (k + 1) = (flips l f B k).set ((f + k) / 8) (x ^^^ UInt8.ofNat (2 ^ ((f + k) % 8))) := by
    simp [flips, h, flip, List.getD, hx]
  rw [e2]
  exact hr.set _ _
end Go.Proofs.Ytofebojfopcjmaa
