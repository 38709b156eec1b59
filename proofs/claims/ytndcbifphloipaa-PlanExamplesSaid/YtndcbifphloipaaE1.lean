/- The kit's copies and comparisons of the law packages: contracts by the engine. -/
import Derived.Test.YtndcbifphloipaaEncData
namespace Go.Proofs.Ytndcbifphloipaa
open Go.RowKit E
set_option maxRecDepth 100000
set_option linter.unusedVariables false
theorem mx : Try.prog.follows .mixedOrders = true := by kernel_rfl
theorem oneRows_of {X : List (List AV)} (h : (X.all fun r => r.all AV.one) = true) : oneRows X := fun row hr y hy => List.all_eq_true.1 (List.all_eq_true.1 h row hr) y hy
theorem onB_t {c : Bool} {A B : Prop} (h : c = true) (a : A) : onB c A B := by subst h; exact a
theorem onB_f {c : Bool} {A B : Prop} (h : c = false) (b : B) : onB c A B := by subst h; exact b
abbrev I (n : Int) : AV := .val (.int .i64 n)
abbrev U8 (n : Int) : AV := .val (.int .u8 n)
abbrev B (b : Bool) : AV := .val (.bool b)
abbrev slI (l : List Int) : AV := .sl 1 l.length fun i => [.val (.int .i64 (l.getD i 0))]
theorem ret_fz {n0 : Nat} {x x1 : AV} {H : Hp} {K : AV → Hp → Prop} {blk : Blk} (id : Nat) (hg : H.get id = some blk) (hx : FzR id blk 4 x x1) (hk : ∀ H1, K x1 H1) : ∃ x1 H1, Wk n0 [(0, x)] H [(0, x1)] H1 ∧ K x1 H1 :=
  have h : Wk n0 [(0, x)] H ((0, x1) :: [(0, x)]) (H.set id none) := Wk.freeze (fr := [(0, x)]) (t := 0) hg hx
  ⟨x1, _, h.trans (Wk.sub ⟨rfl, trivial⟩), hk _⟩
theorem ret_fsl {n0 id sz off len cap n : Nat} {ex : Bool} {f : Nat → List FV} {rows : List (List AV)} {mp : Option MB} {H : Hp} {K : AV → Hp → Prop} (hg : H.get id = some ⟨sz, rows, mp⟩) (hk : ∀ H1, K (.sl sz n f) H1) (hn : len = n)
    (hx : ∀ i, i < n → rows[off + i]? = some ((f i).map FV.up)) : ∃ x1 H1, Wk n0 [(0, .hsl id sz off len cap ex)] H [(0, x1)] H1 ∧ K x1 H1 := by
  subst hn
  exact ret_fz (x1 := .sl sz len f) id hg (by unfold FzR; exact ⟨⟨⟨rfl, rfl⟩, rfl, rfl⟩, hx⟩) hk
/-- Small numbers are as they are. -/
theorem wl : IntKind.i64.wrap 1 = 1 ∧ IntKind.i64.wrap 2 = 2 ∧ IntKind.i64.wrap 3 = 3 ∧ IntKind.i64.wrap 4 = 4 ∧ IntKind.i64.wrap 5 = 5 ∧ IntKind.i64.wrap 6 = 6 ∧ IntKind.i64.wrap 7 = 7 ∧ IntKind.i64.wrap 8 = 8 ∧ IntKind.i64.wrap 9 = 9 ∧ IntKind.i64.wrap 10 = 10 := by decide
theorem wrapS {n : Nat} (h : n < 9223372036854775807) : IntKind.i64.wrap ((n : Int) + 1) = ((n + 1 : Nat) : Int) := by
  unfold IntKind.wrap IntKind.signed IntKind.bits; simp; omega
theorem free_up (l : List FV) : freeL (l.map FV.up) = true := by
  induction l with
  | nil => rfl
  | cons a l ih => show (freeN 5 a.up && freeL (l.map FV.up)) = true; rw [ih]; cases a <;> rfl
theorem free_rows {n : Nat} {f : Nat → List FV} : ∀ row ∈ (List.range n).map (fun i => (f i).map FV.up), freeL row = true := fun row h => by
  obtain ⟨i, _, rfl⟩ := List.mem_map.1 h
  exact free_up _
theorem inj1 {k : Nat} {ρ : Nat → Nat} : ∀ a ∈ [k], ∀ b ∈ [k], ρ a = ρ b → a = b := fun a ha b hb _ => by rw [List.mem_singleton.1 ha, List.mem_singleton.1 hb]
end Go.Proofs.Ytndcbifphloipaa
