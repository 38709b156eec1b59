/- slices.Sorted(maps.Keys(m)) for a set m: new memory that holds the set's numbers, ascending. -/
import Derived.Test.YtdblhmpcilihnaaGreatData
import Derived.Test.YtdblhmpcilihnaaGreatRows
import Derived.WalkKit
import Derived.ProofKit
import Derived.Lib.Hide
import Derived.Deep.RegionHeld3
import Derived.Deep.DeepCutAuto
import Derived.Deep.LoopGhost
import Derived.BigQuiet
import Derived.WalkLawsBesides
import Derived.WalkSpells
import Derived.Test.YtdblhmpcilihnaaGreatPortsMaps
import Derived.Test.YtdblhmpcilihnaaGreatPortsLays
import Derived.Test.YtdblhmpcilihnaaGreatPortsCheck
set_option maxRecDepth 100000
namespace Go.Proofs.YtdblhmpcilihnaaGreat
open Go.ChangeShapes Go.WideShapes Go.ChangeAt Go.RowKit
set_option linter.unusedVariables false
set_option linter.unusedSimpArgs false
open Go.Maps Go.Sort Go.Shelf
theorem sortsA (m : Nat) : AnyZI.SortsIn Tryz.prog Tryz.sortedA_ren Fence.wide m :=
  ⟨fun blk off cap ss W hH hblk hsz => callsIn_wide.2 (AnyM.slices_Sort_int Tryz.sortA blk off cap ss W hH hblk hsz),
   fun p cap W => callsIn_wide.2 (AnyM.slices_Sort_int_none Tryz.sortA p cap W)⟩
theorem keys_any (mb : Option Nat) (w : World) : Calls Tryz.prog 187 #[.map mb] w fun e w' => e = .returned (.func (.func 219) #[] #[.pointer (some ⟨w.heap.size, 0, none⟩)]) ∧ w' = w.alloc (.cells #[.map mb] 65) :=
  (callsIn_wide (n := 5)).1 (AnyZI.keys_in Tryz.keysA Fence.wide 5 trivial rfl mb w)
theorem sorted_any {w : World} {b n : Nat} {S : List Int} (h : SetAt w b n S) (hn : n ≤ 1048576) :
    Calls Tryz.prog 186 #[.func (.func 219) #[] #[.pointer (some ⟨w.heap.size, 0, none⟩)]] (w.alloc (.cells #[.map (some b)] 65))
      fun e w' => ∃ v, e = .returned v ∧ w'.ownsRow w.heap.size 3 1 v (norm S).length ((norm S).map (Value.int .i64)) ∧ Below w.heap.size w w' := by
  obtain ⟨D, hown, hS⟩ := h
  have hbl := hown.lt
  have hsz := hown.size_le
  have hperm : (norm S).Perm (intKeys D) := by
    obtain ⟨es, hD, hpw, _⟩ := hown.entries keyedInt
    obtain ⟨es', hD', hko⟩ := hown.keysOf
    obtain rfl : es = es' := by rw [hD] at hD'; simpa using hD'
    have hS2 := hS.2
    subst hD
    refine perm_intKeys hpw (fun p hp => by obtain ⟨v, hv⟩ := hko p hp; obtain ⟨x, _, hx, _⟩ := Maps.keyOf_i64 Tryz.underlying3 hv; exact ⟨x, hx⟩) (asc_norm S).nodup (fun x => ?_)
    rw [mem_norm, (hS2 x).1]; simp
  have hseq : SeqGives Fence.wide 2 Tryz.prog 219 #[.pointer (some ⟨w.heap.size, 0, none⟩)] encZ (fun ss => ss.Perm (intKeys D)) (Maps.size D) (w.alloc (.cells #[.map (some b)] 65)) :=
    AnyZI.keys_gives (ρ := Tryz.keysA_ren) { Tryz.keysA with } Fence.wide _ trivial rfl (by omega) w.heap.size b n D _ (by simp) (by simp) (by
      obtain ⟨es, clock, hb, Ft, hs, hD⟩ := hown
      exact ⟨es, clock, (Below.heap_alloc _ _ b hbl).trans hb, Ft, hs, hD⟩)
  have cS := AnyZI.sorted_in Tryz.sortedA Fence.wide 5 trivial trivial trivial trivial rfl (by omega) (sortsA _) (enters_of Tryz.func218 (by kernel_rfl) rfl) 219 #[.pointer (some ⟨w.heap.size, 0, none⟩)] trivial (enters_of Tryz.func219 (by kernel_rfl) rfl) _ _ (by unfold maxLen; omega) (by omega) _ hseq
  refine ((callsIn_wide (n := 5)).1 cS).mono ?_
  rintro e w' ⟨v, ss, rfl, hp, hrow, _, hb⟩
  have hp2 : ss.Perm (norm S) := hp.trans hperm.symm
  have hs := sorted_norm (l := S) (hp2.nodup_iff.2 (asc_norm S).nodup) (fun x => by rw [hp2.mem_iff, mem_norm])
  rw [hs, hp2.length_eq] at hrow
  refine ⟨v, rfl, own_lower hrow (by simp), ((Below.refl _ w).alloc (Nat.le_refl _) _).trans (hb.mono (by simp))⟩
end Go.Proofs.YtdblhmpcilihnaaGreat
