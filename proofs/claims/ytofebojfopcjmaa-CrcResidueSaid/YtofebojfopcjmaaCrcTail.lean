/- What CrcResidue needs besides the walks of the checksum: the four bytes of a number as a string. -/
import Derived.Test.YtofebojfopcjmaaCrcRef
import Derived.Test.YtofebojfopcjmaaBytesWords
import Derived.Deep.RegionHeld3
import Derived.RegionTactic
import Derived.WalkLawsBesides
import Derived.WalkSpells
namespace Go.Proofs.Ytofebojfopcjmaa
open Go.ChangeShapes Go.WideShapes Go.ChangeAt Go.RowKit
def tailS (c : BitVec 32) : ByteArray := ⟨(Crc.tail4 c).toArray⟩
theorem tail_row (c : BitVec 32) (w : World) : (w.alloc (.cells #[Value.int .u8 ((c.toNat : Int) % 256), .int .u8 ((c.toNat : Int) / 256 % 256), .int .u8 ((c.toNat : Int) / 65536 % 256), .int .u8 ((c.toNat : Int) / 16777216)] 5)).rowIs w.heap.size 5 (tailS c).size
    (fun i => .int .u8 (((tailS c).data.toList.getD i 0).toNat : Int)) := by
  have hc := c.isLt
  refine ⟨_, heap_alloc_new _ _, rfl, ?_⟩
  intro i hi
  have h4 : i < 4 := hi
  have hx : ∀ n : Nat, ((UInt8.ofNat n).toNat : Int) = (n : Int) % 256 := fun n => by rw [UInt8.toNat_ofNat']; omega
  rcases (show i = 0 ∨ i = 1 ∨ i = 2 ∨ i = 3 by omega) with rfl | rfl | rfl | rfl
  · simp only [tailS, Crc.tail4, List.getD_cons_zero, hx]; rfl
  · simp only [tailS, Crc.tail4, List.getD_cons_succ, List.getD_cons_zero, hx]; rfl
  · simp only [tailS, Crc.tail4, List.getD_cons_succ, List.getD_cons_zero, hx]; rfl
  · simp only [tailS, Crc.tail4, List.getD_cons_succ, List.getD_cons_zero, hx]
    have : (c.toNat : Int) / 16777216 = ((c.toNat / 16777216 : Nat) : Int) % 256 := by omega
    rw [this]; rfl
theorem tail_conv (c : BitVec 32) (w : World) (h : (w.alloc (.cells #[Value.int .u8 ((c.toNat : Int) % 256), .int .u8 ((c.toNat : Int) / 256 % 256), .int .u8 ((c.toNat : Int) / 65536 % 256), .int .u8 ((c.toNat : Int) / 16777216)] 5)).rowIs w.heap.size 5 (tailS c).size
    (fun i => .int .u8 (((tailS c).data.toList.getD i 0).toNat : Int))) :
    (convert 29 9 (.slice (some ⟨w.heap.size, 0, none⟩) 4 4)).run Try.prog (w.alloc (.cells #[Value.int .u8 ((c.toNat : Int) % 256), .int .u8 ((c.toNat : Int) / 256 % 256), .int .u8 ((c.toNat : Int) / 65536 % 256), .int .u8 ((c.toNat : Int) / 16777216)] 5))
      = .ok (.string (tailS c)) (w.alloc (.cells #[Value.int .u8 ((c.toNat : Int) % 256), .int .u8 ((c.toNat : Int) / 256 % 256), .int .u8 ((c.toNat : Int) / 65536 % 256), .int .u8 ((c.toNat : Int) / 16777216)] 5)) :=
  run_string_row (P := Try.prog) _ _ _ 5 _ _ 4 (tailS c) Try.underlying29 Try.underlying5 Try.underlying9 h
theorem tail_any (c : BitVec 32) (w : World) :
    Calls Try.prog 14 #[.int .u32 (c.toNat : Int)] w fun e w' => e = .returned (.string (tailS c)) ∧ Below w.heap.size w w' := by
  have hcv := tail_conv c w (tail_row c w)
  go_enter Try.func14, Try.ntmps14
  go_wp2_with fail
  go_ret
  exact ⟨rfl, (Below.refl _ _).alloc (Nat.le_refl _) _⟩
theorem tail_xor (c d : BitVec 32) (w : World) :
    Calls Try.prog 14 #[.int .u32 (Go.bits .xor .u32 (c.toNat : Int) (d.toNat : Int))] w fun e w' => e = .returned (.string (tailS (c ^^^ d))) ∧ Below w.heap.size w w' := by
  rw [bits_xor]; exact tail_any _ w
theorem ends_yes (s : ByteArray) : (((Crc.moreS 0#32 (s ++ tailS (Crc.moreS 0#32 s))).toNat : Int) == 558161692) = true := by
  have h := Crc.residue s.data.toList
  have e : Crc.moreS 0#32 (s ++ tailS (Crc.moreS 0#32 s)) = 558161692#32 := by
    rw [← h]; simp [Crc.moreS, tailS]
  rw [e]; rfl
theorem ends_no (s : ByteArray) (o : BitVec 32) (ho : ((o.toNat : Int) != 0) = true) : (((Crc.moreS 0#32 (s ++ tailS (Crc.moreS 0#32 s ^^^ o))).toNat : Int) == 558161692) = false := by
  have h := Crc.residue_not s.data.toList o (by rintro rfl; simp at ho)
  have e : Crc.moreS 0#32 (s ++ tailS (Crc.moreS 0#32 s ^^^ o)) ≠ 558161692#32 := by
    intro h'; apply h; rw [← h']; simp [Crc.moreS, tailS]
  rw [beq_eq_false_iff_ne]
  intro h'
  apply e
  apply BitVec.eq_of_toNat_eq
  rw [show (558161692#32).toNat = 558161692 from rfl]
  omega
end Go.Proofs.Ytofebojfopcjmaa
