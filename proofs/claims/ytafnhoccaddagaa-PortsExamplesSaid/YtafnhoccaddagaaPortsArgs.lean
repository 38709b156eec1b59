/- The contracts of Meet, Union and EqualInts in one form: lists with their bounds. -/
import Derived.Test.YtafnhoccaddagaaData
import Derived.Test.YtafnhoccaddagaaRows
import Derived.WalkKit
import Derived.ProofKit
import Derived.Lib.Hide
import Derived.Deep.RegionHeld3
import Derived.Deep.DeepCutAuto
import Derived.Deep.LoopGhost
import Derived.BigQuiet
import Derived.WalkLawsBesides
import Derived.WalkSpells
import Derived.Test.YtafnhoccaddagaaPortsPairs
namespace Go.Proofs.Ytafnhoccaddagaa
open Go.ChangeShapes Go.WideShapes Go.ChangeAt Go.RowKit
set_option linter.unusedVariables false
set_option linter.unusedSimpArgs false
structure Arg (m : Nat) (W : World) (x : List Int) (A : Option Addr) (c : Nat) : Prop where
  cap : x.length ≤ c ∧ c ≤ maxLen
  sl : Kn.Sl (Kn.int .i64) W A x
  len : x.length ≤ m
  wf : ∀ z ∈ x, (Lit.int .i64 z).wf = true
theorem Arg.below {m : Nat} {W W' : World} {x : List Int} {A : Option Addr} {c : Nat} (h : Arg m W x A c) (hb : Below W.heap.size W W') : Arg m W' x A c := ⟨h.cap, h.sl.below hb, h.len, h.wf⟩
def ArgPost (m : Nat) (w : World) (x : List Int) (e : Ending) (w' : World) : Prop := ∃ A c, e = .returned (.slice A x.length c) ∧ Arg m w' x A c ∧ Below w.heap.size w w'
theorem IntsPost.arg {m : Nat} {w w' : World} {x : List Int} {e : Ending} (h : IntsPost w x e w') (hl : x.length ≤ m) (hw : ∀ z ∈ x, (Lit.int .i64 z).wf = true) : ArgPost m w x e w' := by
  obtain ⟨A, c, rfl, hi⟩ := h
  exact ⟨A, c, rfl, ⟨hi.1, hi.sl, hl, hw⟩, hi.2.2⟩
section
variable {W : World} {m k l : Nat} {x y z : List Int} {A B C : Option Addr} {c d e : Nat} {t : TypeId} {g : Nat}
theorem meetA (a : Arg m W x A c) (b : Arg k W y B d) (hm : m ≤ 1048576) (hk : k ≤ 1048576) : Calls Try.prog 10 #[.slice A x.length c, .slice B y.length d] W (ArgPost m W (meetF x y)) :=
  (meet_any a.cap b.cap a.sl b.sl (Nat.le_trans a.len hm) (Nat.le_trans b.len hk) a.wf b.wf).mono fun _ _ h => h.arg (Nat.le_trans (meetF_length _ _) a.len) fun z hz => a.wf z (mem_meetF.1 hz).1
theorem equalA (a : Arg m W x A c) (b : Arg k W y B d) (h : x = y) : Calls Try.prog 11 #[.slice A x.length c, .slice B y.length d] W fun e w' => e = .returned (.bool true) ∧ Below W.heap.size W w' :=
  (equalInts_any a.cap b.cap a.sl b.sl).mono fun _ _ ⟨h1, h2⟩ => ⟨by rw [h1, h]; simp, h2⟩
/-- Lists laid side by side in a new block. -/
theorem lists_sl {ls : List (List Int)} {cs : Array Value} (h : Kn.Cells (Kn.slice (Kn.int .i64)) (W.alloc (.cells cs t)) ls cs.toList) (hg : g = W.heap.size) : Kn.Sl (Kn.slice (Kn.int .i64)) (W.alloc (.cells cs t)) (some ⟨g, 0, none⟩) ls :=
  ⟨_, h, lit_row hg⟩
theorem Arg.cell (a : Arg m W x A c) (o : Obj) : (Kn.slice (Kn.int .i64)).K (W.alloc o) x [.slice A x.length c] := ⟨A, c, rfl, a.cap, a.sl.below ((Below.refl _ _).alloc (Nat.le_refl _) _)⟩
theorem union1A (a : Arg m W x A c) (hm : m ≤ 1048576) (hg : g = W.heap.size) :
    Calls Try.prog 18 #[.slice (some ⟨g, 0, none⟩) 1 1] (W.alloc (.cells #[.slice A x.length c] t)) (ArgPost m (W.alloc (.cells #[.slice A x.length c] t)) (unionF [x])) := by
  have h := union_any (ls := [x]) (c := 1) (self_le (n := 1) (by omega)) (lists_sl (t := t) (cs := #[.slice A x.length c]) ⟨[_], [], rfl, a.cell _, rfl⟩ hg) (by simpa using Nat.le_trans a.len hm) (by simpa using a.wf)
  refine h.mono fun _ _ h => h.arg (Nat.le_trans (unionF_length _) (by simpa using a.len)) fun z hz => ?_
  obtain ⟨l, hl, hq⟩ := mem_unionF.1 hz
  rw [List.mem_singleton.1 hl] at hq; exact a.wf z hq
theorem union2A (a : Arg m W x A c) (b : Arg k W y B d) (hm : m + k ≤ 1048576) (hg : g = W.heap.size) :
    Calls Try.prog 18 #[.slice (some ⟨g, 0, none⟩) 2 2] (W.alloc (.cells #[.slice A x.length c, .slice B y.length d] t)) (ArgPost (m + k) (W.alloc (.cells #[.slice A x.length c, .slice B y.length d] t)) (unionF [x, y])) := by
  have h1 := a.len
  have h2 := b.len
  have hw : ∀ l ∈ [x, y], ∀ z ∈ l, (Lit.int .i64 z).wf = true := fun l hl z hz => by
    rcases List.mem_cons.1 hl with rfl | hl
    · exact a.wf z hz
    · rw [List.mem_singleton.1 hl] at hz; exact b.wf z hz
  have h := union_any (ls := [x, y]) (c := 2) (self_le (n := 2) (by omega)) (lists_sl (t := t) (cs := #[.slice A x.length c, .slice B y.length d]) ⟨[_], [_], rfl, a.cell _, ⟨[_], [], rfl, b.cell _, rfl⟩⟩ hg) (by simp; omega) hw
  refine h.mono fun _ _ h => h.arg (Nat.le_trans (unionF_length _) (by simp; omega)) fun z hz => ?_
  obtain ⟨l, hl, hq⟩ := mem_unionF.1 hz
  exact hw l hl z hq
theorem union3A (a : Arg m W x A c) (b : Arg k W y B d) (b3 : Arg l W z C e) (hm : m + k + l ≤ 1048576) (hg : g = W.heap.size) :
    Calls Try.prog 18 #[.slice (some ⟨g, 0, none⟩) 3 3] (W.alloc (.cells #[.slice A x.length c, .slice B y.length d, .slice C z.length e] t)) (ArgPost (m + k + l) (W.alloc (.cells #[.slice A x.length c, .slice B y.length d, .slice C z.length e] t)) (unionF [x, y, z])) := by
  have h1 := a.len
  have h2 := b.len
  have h3 := b3.len
  have hw : ∀ l ∈ [x, y, z], ∀ z ∈ l, (Lit.int .i64 z).wf = true := fun l hl q hq => by
    rcases List.mem_cons.1 hl with rfl | hl
    · exact a.wf q hq
    · rcases List.mem_cons.1 hl with rfl | hl
      · exact b.wf q hq
      · rw [List.mem_singleton.1 hl] at hq; exact b3.wf q hq
  have h := union_any (ls := [x, y, z]) (c := 3) (self_le (n := 3) (by omega)) (lists_sl (t := t) (cs := #[.slice A x.length c, .slice B y.length d, .slice C z.length e]) ⟨[_], [_, _], rfl, a.cell _, ⟨[_], [_], rfl, b.cell _, ⟨[_], [], rfl, b3.cell _, rfl⟩⟩⟩ hg) (by simp; omega) hw
  refine h.mono fun _ _ h => h.arg (Nat.le_trans (unionF_length _) (by simp; omega)) fun z hz => ?_
  obtain ⟨l, hl, hq⟩ := mem_unionF.1 hz
  exact hw l hl z hq
end
/-- The laws of sets. -/
theorem law_p1 (a b c : List Int) : meetF a (unionF [b, c]) = unionF [meetF a b, meetF a c] := asc_ext (asc_meetF _ _) (asc_unionF _) fun x => by simp [mem_meetF, mem_unionF]; grind
theorem law_p2 (a b c : List Int) : unionF [a, meetF b c] = meetF (unionF [a, b]) (unionF [a, c]) := asc_ext (asc_unionF _) (asc_meetF _ _) fun x => by simp [mem_meetF, mem_unionF]; grind
theorem law_p3 (a b : List Int) : unionF [a, meetF a b] = unionF [a] := asc_ext (asc_unionF _) (asc_unionF _) fun x => by simp [mem_meetF, mem_unionF]; grind
theorem law_p4 (a b : List Int) : meetF a (unionF [a, b]) = unionF [a] := asc_ext (asc_meetF _ _) (asc_unionF _) fun x => by simp [mem_meetF, mem_unionF]; grind
theorem law_o1 (a b c : List Int) : unionF [a, b, c] = unionF [c, a.reverse, b] := asc_ext (asc_unionF _) (asc_unionF _) fun x => by simp [mem_unionF]; grind
theorem law_o2 (a b c : List Int) : unionF [a, b, c] = unionF [unionF [a, b], c] := asc_ext (asc_unionF _) (asc_unionF _) fun x => by simp [mem_unionF]; grind
theorem law_o3 (a b : List Int) : meetF a b = meetF b a.reverse := asc_ext (asc_meetF _ _) (asc_meetF _ _) fun x => by simp [mem_meetF]; grind
theorem law_o4 (a : List Int) : meetF a a = unionF [a] := asc_ext (asc_meetF _ _) (asc_unionF _) fun x => by simp [mem_meetF, mem_unionF]
theorem law_o5 (a : List Int) : unionF [a, a] = unionF [a] := asc_ext (asc_unionF _) (asc_unionF _) fun x => by simp [mem_unionF]
theorem law_o6 (a b c : List Int) : meetF (meetF a b) c = meetF a (meetF b c) := asc_ext (asc_meetF _ _) (asc_meetF _ _) fun x => by simp [mem_meetF]; grind
theorem min_take20 (a : List Int) : min (a.length : Int) 20 = ((a.take 20).length : Int) := by rw [List.length_take]; omega
theorem min_take30 (a : List Int) : min (a.length : Int) 30 = ((a.take 30).length : Int) := by rw [List.length_take]; omega
theorem take_arg {k : Nat} {W : World} {a : List Int} {A : Option Addr} {c : Nat} (h1 : a.length ≤ c ∧ c ≤ maxLen) (h2 : Kn.Sl (Kn.int .i64) W A a) (h3 : ∀ z ∈ a, (Lit.int .i64 z).wf = true) : Arg k W (a.take k) A c :=
  ⟨⟨by simp; omega, h1.2⟩, sl_take h2 k, by simp; omega, fun z hz => h3 z (List.mem_of_mem_take hz)⟩
end Go.Proofs.Ytafnhoccaddagaa
