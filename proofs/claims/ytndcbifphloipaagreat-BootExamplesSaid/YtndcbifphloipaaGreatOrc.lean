/- ports.Meet and ports.Union by their contracts, in runs. -/
import Derived.Test.YtndcbifphloipaaGreatPConv
import Derived.Test.YtndcbifphloipaaGreatEngR
namespace Go.Proofs.YtndcbifphloipaaGreat
open Go.RowKit E
set_option maxRecDepth 100000
set_option linter.unusedVariables false
def okInts (l : List Int) : Bool := Nat.ble l.length 1000 && l.all fun x => (Lit.int .i64 x).wf
def orcMeet (args : List AV) : Option AV := match args with
  | [x, y] => match intsOf x, intsOf y with
    | some a, some b => bif freeL [x, y] && (okInts a && okInts b) then some (slI (meetF a b)) else none
    | _, _ => none
  | _ => none
def orcUnion (args : List AV) : Option AV := match args with
  | [x] => match intssOf x with
    | some [a, b] => bif freeL [x] && (okInts a && okInts b) then some (slI (unionF [a, b])) else none
    | _ => none
  | _ => none
theorem okInts_of {l : List Int} (h : okInts l = true) : l.length ≤ 1000 ∧ ∀ x ∈ l, (Lit.int .i64 x).wf = true := by
  unfold okInts at h
  simp only [Bool.and_eq_true, List.all_eq_true] at h
  exact ⟨Nat.le_of_ble_eq_true h.1, h.2⟩
theorem orcMeet_ok {args : List AV} {r : AV} (h : orcMeet args = some r) : Pure Tryz.prog 151 args r := by
  unfold orcMeet at h
  split at h
  case h_2 => cases h
  split at h
  case h_2 => cases h
  rename_i x y a b ha hb
  obtain ⟨hc, h⟩ := bif_some' h
  cases h
  simp only [Bool.and_eq_true] at hc
  obtain ⟨a1, a2⟩ := okInts_of hc.2.1
  obtain ⟨b1, b2⟩ := okInts_of hc.2.2
  exact (meet_p a b (by omega) (by omega) a2 b2).eq (PW.cons (intsOf_eq ha) (PW.cons (intsOf_eq hb) .nil)) hc.1
theorem orcUnion_ok {args : List AV} {r : AV} (h : orcUnion args = some r) : Pure Tryz.prog 152 args r := by
  unfold orcUnion at h
  split at h
  case h_2 => cases h
  split at h
  case h_2 => cases h
  rename_i x a b ha
  obtain ⟨hc, h⟩ := bif_some' h
  cases h
  simp only [Bool.and_eq_true] at hc
  obtain ⟨a1, a2⟩ := okInts_of hc.2.1
  obtain ⟨b1, b2⟩ := okInts_of hc.2.2
  exact (union2_p a b (by omega) a2 b2).eq (PW.cons (intssOf_eq ha) .nil) hc.1
def orc : Orc := fun g => bif Nat.beq g 151 then some orcMeet else bif Nat.beq g 152 then some orcUnion else none
theorem orc_ok : OrcOk Tryz.prog orc := fun g f args r h hr => by
  unfold orc at h
  cases h1 : Nat.beq g 151 <;> rw [h1] at h <;> simp only [cond_true, cond_false] at h
  · cases h2 : Nat.beq g 152 <;> rw [h2] at h <;> simp only [cond_true, cond_false] at h
    · cases h
    · cases h
      rw [Nat.eq_of_beq_eq_true h2]
      exact orcUnion_ok hr
  · cases h
    rw [Nat.eq_of_beq_eq_true h1]
    exact orcMeet_ok hr
theorem mxr : Tryz.prog.follows .mixedOrders = true := by kernel_rfl
end Go.Proofs.YtndcbifphloipaaGreat
