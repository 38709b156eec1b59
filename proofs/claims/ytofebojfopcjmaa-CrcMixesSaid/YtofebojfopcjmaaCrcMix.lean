/- What CrcMixes needs besides the walks of the checksum: the exclusive or of three strings. -/
import Derived.Test.YtofebojfopcjmaaCrcRef
import Derived.Test.YtofebojfopcjmaaBytesWords
import Derived.Deep.RegionHeld3
import Derived.RegionTactic
import Derived.WalkLawsBesides
import Derived.WalkSpells
namespace Go.Proofs.Ytofebojfopcjmaa
open Go.ChangeShapes Go.WideShapes Go.ChangeAt Go.RowKit
theorem byteInfo : (Try.prog.info? 5).map (fun i => (i.zero, i.size, i.bytes)) = some (some (.int .u8 0), 1, 1) := by kernel_rfl
/-- The exclusive or of the first n bytes of three strings. -/
def mixS (a b c : ByteArray) (n : Nat) : ByteArray := ⟨(Crc.mixL (a.data.toList.take n) (b.data.toList.take n) (c.data.toList.take n)).toArray⟩
theorem mixS_size (a b c : ByteArray) (n : Nat) (h1 : n ≤ a.size) (h2 : n ≤ b.size) (h3 : n ≤ c.size) : (mixS a b c n).size = n := by
  have e1 : a.data.size = a.size := rfl
  have e2 : b.data.size = b.size := rfl
  have e3 : c.data.size = c.size := rfl
  simp only [mixS, ByteArray.size, Crc.mixL, List.size_toArray, List.length_zipWith, List.length_take, Array.length_toList]
  omega
theorem mixS_get (a b c : ByteArray) (n k : Nat) (hk : k < n) (h1 : n ≤ a.size) (h2 : n ≤ b.size) (h3 : n ≤ c.size) :
    (mixS a b c n).data.toList.getD k 0 = (a[k]'(by omega) ^^^ b[k]'(by omega)) ^^^ c[k]'(by omega) := by
  have e1 : k < a.data.size := by have : a.data.size = a.size := rfl; omega
  have e2 : k < b.data.size := by have : b.data.size = b.size := rfl; omega
  have e3 : k < c.data.size := by have : c.data.size = c.size := rfl; omega
  simp only [mixS, Crc.mixL]
  simp [List.getElem?_zipWith, hk, Array.getElem?_eq_getElem e1, Array.getElem?_eq_getElem e2, Array.getElem?_eq_getElem e3]
  rfl
theorem mix_sums (a b c : ByteArray) (n : Nat) (h1 : n ≤ a.size) (h2 : n ≤ b.size) (h3 : n ≤ c.size) :
    (Go.bits .xor .u32 (Go.bits .xor .u32 ((Crc.moreS 0#32 (a.extract 0 n)).toNat : Int) ((Crc.moreS 0#32 (b.extract 0 n)).toNat : Int)) ((Crc.moreS 0#32 (c.extract 0 n)).toNat : Int) ==
      ((Crc.moreS 0#32 (mixS a b c n)).toNat : Int)) = true := by
  have e1 : a.data.size = a.size := rfl
  have e2 : b.data.size = b.size := rfl
  have e3 : c.data.size = c.size := rfl
  rw [bits_xor, bits_xor]
  simp only [Crc.moreS, extract_list, List.drop_zero, Nat.sub_zero]
  rw [Crc.more_mix _ _ _ _ (by simp only [List.length_take, Array.length_toList]; omega) (by simp only [List.length_take, Array.length_toList]; omega)]
  simp [mixS]
theorem mix_get (a b c : ByteArray) (n : Nat) (h1 : n ≤ a.size) (h2 : n ≤ b.size) (h3 : n ≤ c.size) (k : Nat) (hk : k < n) (p1 : k < a.size) (p2 : k < b.size) (p3 : k < c.size) :
    Go.bits .xor .u8 (Go.bits .xor .u8 ((a[k]'p1).toNat : Int) ((b[k]'p2).toNat : Int)) ((c[k]'p3).toNat : Int) = (((mixS a b c n).data.toList.getD k 0).toNat : Int) := by
  rw [bits_xor_u8, bits_xor_u8, mixS_get _ _ _ _ _ hk h1 h2 h3]
/-- The row after k rounds. -/
def mixF (X : ByteArray) (k : Nat) : Nat → Value := fun j => .int .u8 (if j < k then ((X.data.toList.getD j 0).toNat : Int) else 0)
theorem mixF_step (X : ByteArray) (k : Nat) : (fun j => if j = k then Value.int .u8 ((X.data.toList.getD k 0).toNat : Int) else mixF X k j) = mixF X (k + 1) := by
  funext j
  unfold mixF
  by_cases h : j = k
  · subst h; simp
  · by_cases h' : j < k
    · simp [h, h', show j < k + 1 by omega]
    · simp [h, h', show ¬ j < k + 1 by omega]
theorem mixF_end (X : ByteArray) (n : Nat) : ∀ i, i < n → mixF X n i = .int .u8 ((X.data.toList.getD i 0).toNat : Int) := fun i h => by simp [mixF, h]
/-- The row holds the string's bytes: so it converts into the string. -/
def RowStr (w : World) (g : Nat) (X : ByteArray) : Prop := w.rowIs g 5 X.size (fun i => .int .u8 ((X.data.toList.getD i 0).toNat : Int))
theorem RowStr.conv {w : World} {g : Nat} {X : ByteArray} (h : RowStr w g X) (n : Nat) (hn : n = X.size) : (convert 29 9 (.slice (some ⟨g, 0, none⟩) n n)).run Try.prog w = .ok (.string X) w := by
  subst hn
  exact run_string_row w _ _ 5 _ g _ X Try.underlying29 Try.underlying5 Try.underlying9 h
theorem RowStr.below {w w' : World} {g : Nat} {X : ByteArray} (h : RowStr w g X) (hb : Below w.heap.size w w') : RowStr w' g X :=
  World.rowIs.of_block h (hb.block g (World.rowIs.lt h))
theorem keepRow {w w' : World} {g k : Nat} {X : ByteArray} {r : Result Value} (hk : k = X.size) (h : RowStr w g X ∧ (convert 29 9 (.slice (some ⟨g, 0, none⟩) k k)).run Try.prog w = r) (hb : Below w.heap.size w w') :
    RowStr w' g X ∧ (convert 29 9 (.slice (some ⟨g, 0, none⟩) k k)).run Try.prog w' = .ok (.string X) w' :=
  ⟨h.1.below hb, (h.1.below hb).conv k hk⟩
theorem RowStr.drew {w : World} {g : Nat} {X : ByteArray} (h : RowStr w g X) : RowStr w.drew g X := h
end Go.Proofs.Ytofebojfopcjmaa
