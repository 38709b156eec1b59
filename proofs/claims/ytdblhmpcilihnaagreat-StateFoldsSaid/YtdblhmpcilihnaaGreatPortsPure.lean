/- Sets of numbers as ascending lists: laying a number in, laying a list in, what is a member; an ascending list is known by its members. No program here. -/
import Derived.Lib.SlKeysI
set_option linter.unusedVariables false
set_option linter.unusedSimpArgs false
namespace Go.Proofs.YtdblhmpcilihnaaGreat
def valInt : Go.Value → Int
  | .int _ a => a
  | _ => 0
/-- A number laid into an ascending list. -/
def ins : List Int → Int → List Int
  | [], n => [n]
  | x :: l, n => if x < n then x :: ins l n else if x = n then x :: l else n :: x :: l
def norm (l : List Int) : List Int := l.foldl ins []
def Asc (l : List Int) : Prop := l.Pairwise (· < ·)
theorem mem_ins {l : List Int} {n x : Int} : x ∈ ins l n ↔ x ∈ l ∨ x = n := by
  induction l with
  | nil => simp [ins]
  | cons y l ih =>
    unfold ins
    split
    · rw [List.mem_cons, ih, List.mem_cons, or_assoc]
    · split
      · rename_i h; subst h; simp only [List.mem_cons]; exact ⟨.inl, fun h => h.elim id .inl⟩
      · simp only [List.mem_cons]; exact ⟨fun h => h.elim .inr .inl, fun h => h.elim .inr .inl⟩
theorem asc_ins {l : List Int} {n : Int} (h : Asc l) : Asc (ins l n) := by
  induction l with
  | nil => exact List.pairwise_singleton _ _
  | cons y l ih =>
    obtain ⟨h1, h2⟩ := List.pairwise_cons.1 h
    unfold ins
    split
    · rename_i hy
      refine List.pairwise_cons.2 ⟨fun z hz => ?_, ih h2⟩
      rcases mem_ins.1 hz with hz | rfl
      · exact h1 z hz
      · exact hy
    · split
      · exact h
      · rename_i hy hne
        refine List.pairwise_cons.2 ⟨fun z hz => ?_, h⟩
        rcases List.mem_cons.1 hz with rfl | hz
        · omega
        · have := h1 z hz; omega
theorem length_ins (l : List Int) (n : Int) : (ins l n).length ≤ l.length + 1 ∧ l.length ≤ (ins l n).length := by
  induction l with
  | nil => simp [ins]
  | cons y l ih => unfold ins; split <;> (try split) <;> simp <;> omega
theorem foldl_ins_mem (l acc : List Int) (x : Int) : x ∈ l.foldl ins acc ↔ x ∈ acc ∨ x ∈ l := by
  induction l generalizing acc with
  | nil => simp
  | cons y l ih => rw [List.foldl_cons, ih, mem_ins]; simp; constructor <;> rintro h <;> simp_all [or_assoc]
theorem foldl_ins_asc (l acc : List Int) (h : Asc acc) : Asc (l.foldl ins acc) := by
  induction l generalizing acc with
  | nil => exact h
  | cons y l ih => exact ih _ (asc_ins h)
theorem foldl_ins_length (l acc : List Int) : (l.foldl ins acc).length ≤ acc.length + l.length := by
  induction l generalizing acc with
  | nil => simp
  | cons y l ih => have := ih (ins acc y); have := (length_ins acc y).1; simp; omega
theorem mem_norm {l : List Int} {x : Int} : x ∈ norm l ↔ x ∈ l := by simp [norm, foldl_ins_mem]
theorem asc_norm (l : List Int) : Asc (norm l) := foldl_ins_asc l [] List.Pairwise.nil
theorem length_norm (l : List Int) : (norm l).length ≤ l.length := by have := foldl_ins_length l []; simpa [norm] using this
theorem Asc.nodup {l : List Int} (h : Asc l) : l.Nodup := h.imp fun hab e => by omega
theorem asc_ext {l l' : List Int} (h : Asc l) (h' : Asc l') (hm : ∀ x, x ∈ l ↔ x ∈ l') : l = l' := by
  refine List.Perm.eq_of_pairwise (le := (· < ·)) (fun a b _ _ h1 h2 => by omega) h h' ?_
  exact (List.perm_ext_iff_of_nodup h.nodup h'.nodup).2 hm
theorem norm_ext {l l' : List Int} (hm : ∀ x, x ∈ l ↔ x ∈ l') : norm l = norm l' := asc_ext (asc_norm l) (asc_norm l') fun x => by rw [mem_norm, mem_norm, hm]
theorem norm_eq {l l' : List Int} (h : Asc l') (hm : ∀ x, x ∈ l' ↔ x ∈ l) : norm l = l' := asc_ext (asc_norm l) h fun x => by rw [mem_norm, hm]
/-- What the sorted keys are. -/
theorem sorted_norm {ss l : List Int} (hn : ss.Nodup) (hm : ∀ x, x ∈ ss ↔ x ∈ l) : ss.mergeSort (fun x y => decide (x ≤ y)) = norm l := by
  have tr : ∀ a b c : Int, decide (a ≤ b) = true → decide (b ≤ c) = true → decide (a ≤ c) = true := fun a b c h1 h2 => by simp only [decide_eq_true_eq] at *; omega
  have to : ∀ a b : Int, (decide (a ≤ b) || decide (b ≤ a)) = true := fun a b => by simp only [Bool.or_eq_true, decide_eq_true_eq]; omega
  have hp := List.mergeSort_perm ss (fun x y => decide (x ≤ y))
  have hs := List.pairwise_mergeSort tr to ss
  have hnd : (ss.mergeSort (fun x y => decide (x ≤ y))).Nodup := hp.nodup_iff.2 hn
  refine (norm_eq ?_ fun x => ?_).symm
  · refine (hs.and hnd).imp fun h => ?_
    obtain ⟨h1, h2⟩ := h
    simp only [decide_eq_true_eq] at h1
    omega
  · rw [hp.mem_iff, hm]
/-- How the reference lays a number in: behind the smaller ones. -/
theorem ins_at {l : List Int} {n : Int} {k : Nat} (hk : k ≤ l.length) (hb : ∀ j x, j < k → l[j]? = some x → x < n) (he : ∀ x, l[k]? = some x → ¬ x < n) :
    ins l n = if l[k]? = some n then l else l.take k ++ (n :: l.drop k) := by
  induction l generalizing k with
  | nil => simp at hk; subst hk; simp [ins]
  | cons y l ih =>
    cases k with
    | zero =>
      have h0 := he y rfl
      unfold ins
      rw [if_neg h0]
      by_cases hy : y = n
      · subst hy; simp
      · simp [hy]
    | succ k =>
      have h0 := hb 0 y (by omega) rfl
      unfold ins
      rw [if_pos h0, ih (k := k) (by simpa using hk) (fun j x hj hx => hb (j + 1) x (by omega) (by simpa using hx)) (fun x hx => he x (by simpa using hx))]
      simp only [List.getElem?_cons_succ, List.take_succ_cons, List.drop_succ_cons]
      split <;> simp
/-- The answers of the layer. -/
def meetF (a b : List Int) : List Int := norm (a.filter fun x => b.contains x)
def unionF (ls : List (List Int)) : List Int := norm ls.flatten
def chk : Int → List Int → Int
  | _, [] => 0
  | before, p :: l => if p < 1 ∨ 65535 < p then 3 else if p ≤ before then 13 else chk p l
def checkF (l : List Int) : Int := if 8 < l.length then 5 else chk 0 l
theorem mem_meetF {a b : List Int} {x : Int} : x ∈ meetF a b ↔ x ∈ a ∧ x ∈ b := by simp [meetF, mem_norm]
theorem mem_unionF {ls : List (List Int)} {x : Int} : x ∈ unionF ls ↔ ∃ l ∈ ls, x ∈ l := by simp [unionF, mem_norm]
theorem asc_meetF (a b : List Int) : Asc (meetF a b) := asc_norm _
theorem asc_unionF (ls : List (List Int)) : Asc (unionF ls) := asc_norm _
theorem meetF_length (a b : List Int) : (meetF a b).length ≤ a.length := Nat.le_trans (length_norm _) (List.length_filter_le _ _)
theorem unionF_length (ls : List (List Int)) : (unionF ls).length ≤ ls.flatten.length := length_norm _
/-- The reference's steps. -/
theorem meetF_snoc (a b : List Int) (x : Int) : meetF (a ++ [x]) b = if x ∈ b then ins (meetF a b) x else meetF a b := by
  unfold meetF norm
  rw [List.filter_append, List.foldl_append]
  by_cases h : x ∈ b
  · rw [if_pos h]; simp [h]
  · rw [if_neg h]; simp [h]
theorem norm_snoc (a : List Int) (x : Int) : norm (a ++ [x]) = ins (norm a) x := by simp [norm]
theorem chk_before {b1 b2 : Int} (l : List Int) (h1 : b1 ≤ 0) (h2 : b2 ≤ 0) : chk b1 l = chk b2 l := by
  cases l with
  | nil => rfl
  | cons p l =>
    unfold chk
    split
    · rfl
    · rename_i h; rw [if_neg (by omega), if_neg (by omega)]
end Go.Proofs.YtdblhmpcilihnaaGreat
