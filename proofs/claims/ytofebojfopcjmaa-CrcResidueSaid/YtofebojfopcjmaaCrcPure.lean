/- What the checksum computes, as plain functions on bit vectors, and its laws: no program here. -/
import Init
namespace Go.Proofs.Ytofebojfopcjmaa.Crc

def poly : BitVec 32 := 0xEDB88320#32
/-- One shift of the register. -/
def L (r : BitVec 32) : BitVec 32 := if r.getLsbD 0 then (r >>> 1) ^^^ poly else r >>> 1
def bit (b : Bool) : BitVec 32 := if b then 1#32 else 0#32
def step (r : BitVec 32) (b : Bool) : BitVec 32 := L (r ^^^ bit b)
def feed (r : BitVec 32) (bs : List Bool) : BitVec 32 := bs.foldl step r
/-- The bits of a byte, from the least one on. -/
def bits (c : UInt8) : List Bool := (List.range 8).map fun k => c.toNat.testBit k
def allBits (l : List UInt8) : List Bool := l.flatMap bits
def more (c : BitVec 32) (l : List UInt8) : BitVec 32 := ~~~ feed (~~~ c) (allBits l)

/-- The same of a string: a name that the walk does not open. -/
def moreS (c : BitVec 32) (s : ByteArray) : BitVec 32 := more c s.data.toList

theorem feed_append (r : BitVec 32) (a b : List Bool) : feed r (a ++ b) = feed (feed r a) b := by simp [feed, List.foldl_append]
theorem feed_nil (r : BitVec 32) : feed r [] = r := rfl
theorem feed_cons (r : BitVec 32) (b : Bool) (l : List Bool) : feed r (b :: l) = feed (step r b) l := rfl
theorem allBits_append (a b : List UInt8) : allBits (a ++ b) = allBits a ++ allBits b := by simp [allBits]
theorem allBits_snoc (a : List UInt8) (c : UInt8) : allBits (a ++ [c]) = allBits a ++ bits c := by simp [allBits]
theorem bits_length (c : UInt8) : (bits c).length = 8 := by simp [bits]
theorem allBits_length (l : List UInt8) : (allBits l).length = 8 * l.length := by
  induction l with
  | nil => rfl
  | cons c l ih => simp only [allBits, List.flatMap_cons, List.length_append, bits_length, List.length_cons] at ih ⊢; omega

theorem more_append (c : BitVec 32) (a b : List UInt8) : more (more c a) b = more c (a ++ b) := by
  simp only [more, BitVec.not_not, allBits_append, feed_append]
theorem more_nil (c : BitVec 32) : more c [] = c := by simp [more, allBits, feed]

/-! ### linear -/
theorem L_xor (r s : BitVec 32) : L (r ^^^ s) = L r ^^^ L s := by
  unfold L
  rw [BitVec.getLsbD_xor, BitVec.ushiftRight_xor_distrib]
  cases r.getLsbD 0 <;> cases s.getLsbD 0 <;> simp only [Bool.xor_false, Bool.xor_true, Bool.not_true, Bool.not_false, Bool.false_eq_true, if_true, if_false]
  · rw [BitVec.xor_assoc]
  · rw [BitVec.xor_assoc, BitVec.xor_comm (s >>> 1), ← BitVec.xor_assoc]
  · rw [BitVec.xor_assoc, ← BitVec.xor_assoc poly, BitVec.xor_comm poly, BitVec.xor_assoc (s >>> 1), BitVec.xor_self, BitVec.xor_zero]
theorem L_zero : L 0#32 = 0#32 := by decide
theorem poly_top : poly.getLsbD 31 = true := by decide
theorem L_top (r : BitVec 32) : (L r).getLsbD 31 = r.getLsbD 0 := by
  unfold L
  split
  · rename_i h; rw [BitVec.getLsbD_xor, poly_top, BitVec.getLsbD_ushiftRight, h]; simp
  · rename_i h; rw [BitVec.getLsbD_ushiftRight]; simp at h ⊢; exact h
theorem L_ne (r : BitVec 32) (h : r ≠ 0#32) : L r ≠ 0#32 := by
  intro e
  apply h
  have ht := L_top r
  rw [e] at ht
  have h0 : r.getLsbD 0 = false := by simpa using ht.symm
  have hs : r >>> 1 = 0#32 := by
    unfold L at e
    rw [h0] at e
    simpa using e
  apply BitVec.eq_of_getLsbD_eq
  intro i hi
  rcases Nat.eq_zero_or_pos i with rfl | hp
  · rw [h0]; simp
  · have := congrArg (fun x => BitVec.getLsbD x (i - 1)) hs
    simp only [BitVec.getLsbD_ushiftRight] at this
    rw [show 1 + (i - 1) = i by omega] at this
    simpa using this

def iter : Nat → BitVec 32 → BitVec 32
  | 0, r => r
  | n + 1, r => iter n (L r)
theorem iter_xor (n : Nat) (r s : BitVec 32) : iter n (r ^^^ s) = iter n r ^^^ iter n s := by
  induction n generalizing r s with
  | zero => rfl
  | succ n ih => simp only [iter, L_xor, ih]
theorem iter_ne (n : Nat) (r : BitVec 32) (h : r ≠ 0#32) : iter n r ≠ 0#32 := by
  induction n generalizing r with
  | zero => exact h
  | succ n ih => exact ih _ (L_ne r h)

theorem xor_ne {r s : BitVec 32} : r ^^^ s ≠ 0#32 ↔ r ≠ s := by
  constructor
  · intro h e; subst e; exact h BitVec.xor_self
  · intro h e
    apply h
    have : r ^^^ s ^^^ s = 0#32 ^^^ s := by rw [e]
    rwa [BitVec.xor_assoc, BitVec.xor_self, BitVec.xor_zero, BitVec.zero_xor] at this

theorem bit_xor (a b : Bool) : bit (a ^^ b) = bit a ^^^ bit b := by cases a <;> cases b <;> decide
theorem xor_swap (a b c d : BitVec 32) : (a ^^^ b) ^^^ (c ^^^ d) = (a ^^^ c) ^^^ (b ^^^ d) := by
  rw [BitVec.xor_assoc, ← BitVec.xor_assoc b, BitVec.xor_comm b c, BitVec.xor_assoc c, ← BitVec.xor_assoc]
theorem step_xor (r s : BitVec 32) (a b : Bool) : step r a ^^^ step s b = step (r ^^^ s) (a ^^ b) := by
  unfold step
  rw [← L_xor, bit_xor, xor_swap]
/-- Two runs of the same length: what they differ in is a run over what the bits differ in. -/
theorem feed_xor (r s : BitVec 32) (a b : List Bool) (h : a.length = b.length) : feed r a ^^^ feed s b = feed (r ^^^ s) (List.zipWith Bool.xor a b) := by
  induction a generalizing r s b with
  | nil => cases b <;> simp_all [feed]
  | cons x a ih =>
    cases b with
    | nil => simp at h
    | cons y b =>
      simp only [List.zipWith_cons_cons, feed_cons]
      rw [ih _ _ _ (by simpa using h), step_xor]

theorem step_false (r : BitVec 32) : step r false = L r := by unfold step bit; simp
theorem feed_zeros (r : BitVec 32) (n : Nat) : feed r (List.replicate n false) = iter n r := by
  induction n generalizing r with
  | zero => rfl
  | succ n ih => rw [List.replicate_succ, feed_cons, step_false, ih]; rfl

/-- A word whose bits are those of a list. -/
def word : List Bool → BitVec 32
  | [] => 0#32
  | b :: l => bit b ^^^ (word l <<< 1)

theorem L_shl (x : BitVec 32) (h : x.getLsbD 31 = false) : L (x <<< 1) = x := by
  unfold L
  have h0 : (x <<< 1).getLsbD 0 = false := by simp
  rw [h0]
  simp only [Bool.false_eq_true, if_false]
  apply BitVec.eq_of_getLsbD_eq
  intro i hi
  rw [BitVec.getLsbD_ushiftRight, BitVec.getLsbD_shiftLeft]
  by_cases h31 : i = 31
  · subst h31; simp; simpa using h
  · have : 1 + i < 32 := by omega
    simp [this]
theorem bit_high (b : Bool) (i : Nat) (h : 0 < i) : (bit b).getLsbD i = false := by
  cases b
  · simp [bit]
  · simp only [bit, if_true]
    rw [BitVec.getLsbD_one]
    simp; omega
theorem word_high (l : List Bool) (i : Nat) (h : l.length ≤ i) : (word l).getLsbD i = false := by
  induction l generalizing i with
  | nil => simp [word]
  | cons b l ih =>
    have h' : l.length + 1 ≤ i := by simpa using h
    simp only [word, BitVec.getLsbD_xor]
    rw [bit_high b i (by omega), BitVec.getLsbD_shiftLeft, ih (i - 1) (by omega)]
    simp
/-- To feed at most 32 bits is to mix them in at once, and then to shift. -/
theorem feed_word (r : BitVec 32) (l : List Bool) (h : l.length ≤ 32) : feed r l = iter l.length (r ^^^ word l) := by
  induction l generalizing r with
  | nil => simp [feed, word, iter]
  | cons b l ih =>
    have h' : l.length + 1 ≤ 32 := by simpa using h
    rw [feed_cons, ih _ (by omega)]
    simp only [List.length_cons, iter]
    congr 1
    unfold step
    rw [word, ← BitVec.xor_assoc, L_xor (r ^^^ bit b), L_shl _ (word_high l 31 (by omega))]
theorem word_cons_true (l : List Bool) : word (true :: l) ≠ 0#32 := by
  intro h
  have := congrArg (fun x => BitVec.getLsbD x 0) h
  simp [word, bit] at this

theorem feed_from_zero (n : Nat) : feed 0#32 (List.replicate n false) = 0#32 := by
  rw [feed_zeros]
  induction n with
  | zero => rfl
  | succ n ih => rw [iter, L_zero]; exact ih
/-- A burst: zeros, a bit that is set and at most 31 more, zeros. -/
theorem feed_burst (a b : Nat) (l : List Bool) (h : l.length ≤ 31) : feed 0#32 (List.replicate a false ++ (true :: l) ++ List.replicate b false) ≠ 0#32 := by
  rw [feed_append, feed_append, feed_from_zero, feed_zeros]
  apply iter_ne
  rw [feed_word _ _ (by simpa using h), BitVec.zero_xor]
  exact iter_ne _ _ (word_cons_true l)

theorem not_xor_not (a b : BitVec 32) : ~~~a ^^^ ~~~b = a ^^^ b := by
  apply BitVec.eq_of_getLsbD_eq
  intro i hi
  simp only [BitVec.getLsbD_xor, BitVec.getLsbD_not, hi, decide_true, Bool.true_and]
  cases a.getLsbD i <;> cases b.getLsbD i <;> rfl

theorem more_xor (c d : BitVec 32) (s t : List UInt8) : more c s ^^^ more d t = feed (~~~c) (allBits s) ^^^ feed (~~~d) (allBits t) := by
  unfold more; exact not_xor_not _ _

theorem bits_xor (a b : UInt8) : bits (a ^^^ b) = List.zipWith Bool.xor (bits a) (bits b) := by
  unfold bits
  apply List.ext_getElem
  · simp
  · intro i h1 h2
    simp only [List.getElem_map, List.getElem_zipWith, List.getElem_range, UInt8.toNat_xor, Nat.testBit_xor]
theorem zipWith_append_bits (a b c d : List Bool) (h : a.length = b.length) : List.zipWith Bool.xor (a ++ c) (b ++ d) = List.zipWith Bool.xor a b ++ List.zipWith Bool.xor c d := by
  rw [List.zipWith_append h]
theorem allBits_cons (x : UInt8) (l : List UInt8) : allBits (x :: l) = bits x ++ allBits l := rfl
theorem allBits_xor (a b : List UInt8) (h : a.length = b.length) : allBits (List.zipWith (· ^^^ ·) a b) = List.zipWith Bool.xor (allBits a) (allBits b) := by
  induction a generalizing b with
  | nil => cases b <;> simp_all [allBits]
  | cons x a ih =>
    cases b with
    | nil => simp at h
    | cons y b =>
      rw [List.zipWith_cons_cons, allBits_cons, allBits_cons, allBits_cons, List.zipWith_append (by rw [bits_length, bits_length]), ih b (by simpa using h), bits_xor]
/-- The exclusive or of three lists of bytes. -/
def mixL (a b c : List UInt8) : List UInt8 := List.zipWith (· ^^^ ·) (List.zipWith (· ^^^ ·) a b) c
theorem more_mix (r : BitVec 32) (a b c : List UInt8) (h : a.length = b.length) (h' : b.length = c.length) : more r a ^^^ more r b ^^^ more r c = more r (mixL a b c) := by
  have e1 : more r a ^^^ more r b ^^^ more r c = ~~~(feed (~~~r) (allBits a) ^^^ feed (~~~r) (allBits b) ^^^ feed (~~~r) (allBits c)) := by
    unfold more
    apply BitVec.eq_of_getLsbD_eq
    intro i hi
    simp only [BitVec.getLsbD_xor, BitVec.getLsbD_not, hi, decide_true, Bool.true_and]
    cases (feed (~~~r) (allBits a)).getLsbD i <;> cases (feed (~~~r) (allBits b)).getLsbD i <;> cases (feed (~~~r) (allBits c)).getLsbD i <;> rfl
  rw [e1, feed_xor _ _ _ _ (by rw [allBits_length, allBits_length, h]), feed_xor _ _ _ _ (by rw [List.length_zipWith, allBits_length, allBits_length, allBits_length]; omega)]
  rw [BitVec.xor_self, BitVec.zero_xor, more, mixL, allBits_xor _ _ (by rw [List.length_zipWith]; omega), allBits_xor _ _ h]

theorem more_ne (c : BitVec 32) (s t : List UInt8) (hl : s.length = t.length) (a b : Nat) (l : List Bool) (h : l.length ≤ 31)
    (hz : List.zipWith Bool.xor (allBits s) (allBits t) = List.replicate a false ++ (true :: l) ++ List.replicate b false) : more c s ≠ more c t := by
  rw [← xor_ne, more_xor, feed_xor _ _ _ _ (by rw [allBits_length, allBits_length, hl]), hz, BitVec.xor_self]
  exact feed_burst a b l h
/-- The four bytes of a number, the least one first. -/
def tail4 (c : BitVec 32) : List UInt8 := [UInt8.ofNat (c.toNat), UInt8.ofNat (c.toNat / 256), UInt8.ofNat (c.toNat / 65536), UInt8.ofNat (c.toNat / 16777216)]
def bitsOf (c : BitVec 32) : List Bool := (List.range 32).map fun k => c.getLsbD k
theorem tail4_bits (c : BitVec 32) : allBits (tail4 c) = bitsOf c := by
  have hb : ∀ (m : Nat) (k : Nat), k < 8 → (UInt8.ofNat (c.toNat / 2 ^ m)).toNat.testBit k = c.getLsbD (m + k) := by
    intro m k hk
    rw [UInt8.toNat_ofNat', Nat.testBit_mod_two_pow, Nat.testBit_div_two_pow, BitVec.getLsbD]
    simp [hk, Nat.add_comm]
  have h0 := hb 0
  have h1 := hb 8
  have h2 := hb 16
  have h3 := hb 24
  simp only [Nat.pow_zero, Nat.div_one] at h0
  rw [show 2 ^ 8 = 256 from rfl] at h1
  rw [show 2 ^ 16 = 65536 from rfl] at h2
  rw [show 2 ^ 24 = 16777216 from rfl] at h3
  simp only [tail4, bitsOf, allBits, bits, List.flatMap_cons, List.flatMap_nil, List.append_nil]
  simp only [List.range, List.range.loop, List.map_cons, List.map_nil, List.cons_append, List.nil_append]
  simp only [h0 0 (by omega), h0 1 (by omega), h0 2 (by omega), h0 3 (by omega), h0 4 (by omega), h0 5 (by omega), h0 6 (by omega), h0 7 (by omega),
    h1 0 (by omega), h1 1 (by omega), h1 2 (by omega), h1 3 (by omega), h1 4 (by omega), h1 5 (by omega), h1 6 (by omega), h1 7 (by omega),
    h2 0 (by omega), h2 1 (by omega), h2 2 (by omega), h2 3 (by omega), h2 4 (by omega), h2 5 (by omega), h2 6 (by omega), h2 7 (by omega),
    h3 0 (by omega), h3 1 (by omega), h3 2 (by omega), h3 3 (by omega), h3 4 (by omega), h3 5 (by omega), h3 6 (by omega), h3 7 (by omega)]
theorem word_get (l : List Bool) (i : Nat) (hi : i < 32) : (word l).getLsbD i = (l[i]?).getD false := by
  induction l generalizing i with
  | nil => simp [word]
  | cons b l ih =>
    simp only [word, BitVec.getLsbD_xor, BitVec.getLsbD_shiftLeft]
    rcases Nat.eq_zero_or_pos i with rfl | h
    · cases b <;> simp [bit]
    · obtain ⟨j, rfl⟩ : ∃ j, i = j + 1 := ⟨i - 1, by omega⟩
      rw [bit_high b _ h, Nat.add_sub_cancel, ih j (by omega)]
      simp [hi]
theorem word_bitsOf (c : BitVec 32) : word (bitsOf c) = c := by
  apply BitVec.eq_of_getLsbD_eq
  intro i hi
  rw [word_get _ _ hi]
  simp [bitsOf, hi]
/-- What is left when a string is followed by four bytes. -/
theorem more_tail (s : List UInt8) (c : BitVec 32) : more 0#32 (s ++ tail4 c) = ~~~iter 32 (~~~more 0#32 s ^^^ c) := by
  rw [← more_append]
  conv => lhs; rw [more]
  rw [tail4_bits, feed_word _ _ (by simp [bitsOf]), word_bitsOf]
  simp [bitsOf]
theorem not_xor_self (c : BitVec 32) : ~~~c ^^^ c = BitVec.allOnes 32 := by
  apply BitVec.eq_of_getLsbD_eq
  intro i hi
  simp only [BitVec.getLsbD_xor, BitVec.getLsbD_not, BitVec.getLsbD_allOnes, hi, decide_true, Bool.true_and]
  cases c.getLsbD i <;> rfl
theorem residue (s : List UInt8) : more 0#32 (s ++ tail4 (more 0#32 s)) = 558161692#32 := by
  rw [more_tail, not_xor_self]
  decide +kernel
theorem residue_not (s : List UInt8) (o : BitVec 32) (ho : o ≠ 0#32) : more 0#32 (s ++ tail4 (more 0#32 s ^^^ o)) ≠ 558161692#32 := by
  rw [← residue s, more_tail, more_tail]
  rw [← BitVec.xor_assoc, not_xor_self, iter_xor]
  rw [← xor_ne, not_xor_not, BitVec.xor_comm (iter 32 _), BitVec.xor_assoc, BitVec.xor_self, BitVec.xor_zero]
  exact iter_ne _ _ ho
end Go.Proofs.Ytofebojfopcjmaa.Crc
