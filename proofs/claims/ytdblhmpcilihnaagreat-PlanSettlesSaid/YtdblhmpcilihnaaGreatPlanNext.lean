/- plan.Next: what is next for a task, by walks over the map of rules. -/
import Derived.Test.YtdblhmpcilihnaaGreatPlanRules
import Derived.Test.YtdblhmpcilihnaaGreatMaps
import Derived.Laws.EntriesVeiled
import Derived.Shelf.Abstract
import Derived.Test.YtdblhmpcilihnaaGreatTaskCheck
set_option maxRecDepth 100000
namespace Go.Proofs.YtdblhmpcilihnaaGreat
open Go.ChangeShapes Go.WideShapes Go.ChangeAt Go.RowKit
set_option linter.unusedVariables false
set_option linter.unusedSimpArgs false
/-- A function value that says what is done in a state with a live process. -/
def LiveAt (w : World) (v : Value) (L : Task → Look → Int) : Prop :=
  ∃ (fid : FuncId) (cap : Value), v = .func (.func fid) #[] #[cap] ∧ (∀ args w, (callFunc fid args).run Tryz.prog w = .ok (.enter fid args) w) ∧
    ∀ w', Since w w' → ∀ (t : Task) (k : Look) (A : Option Addr) (c : Nat), Calls Tryz.prog fid #[t.val A c, k.val, cap] w' fun e w'' => e = .returned (.int .u8 (L t k)) ∧ Below w'.heap.size w' w''
theorem Since.trans {a b c : World} (h : Since a b) (k : Since b c) : Since a c := fun i hi => (k i (since_lt h hi)).trans (h i hi)
theorem LiveAt.since {w w' : World} {v : Value} {L : Task → Look → Int} (h : LiveAt w v L) (hs : Since w w') : LiveAt w' v L := by
  obtain ⟨fid, cap, rfl, he, hc⟩ := h
  exact ⟨fid, cap, rfl, he, fun w'' h' => hc w'' (hs.trans h')⟩
def withF (L : Task → Look → Int) (t : Task) (k : Look) : Step := if k.has then (if k.proc.alive then ⟨L t k, 0⟩ else ⟨3, k.proc.code⟩) else ⟨3, -1⟩
set_option maxHeartbeats 1000000 in
theorem with_anyN (L : Task → Look → Int) (v : Value) (t : Task) (k : Look) (A : Option Addr) (c : Nat) (g : Nat) (w : World) (hg : w.heap[g]? = some (.cells #[v] 178 (0, 0))) (hv : LiveAt w v L) :
    Calls Tryz.prog 152 #[t.val A c, k.val, .pointer (some ⟨g, 0, none⟩)] w fun e w' => e = .returned (withF L t k).val ∧ Below w.heap.size w w' := by
  have hlt : g < w.heap.size := lt_of_block hg
  have c0 := cell_of_one hg
  clear hg
  obtain ⟨l1, l2, l3, l4, l5⟩ := ltS hlt
  obtain ⟨fid, cap, rfl, he, hc⟩ := hv
  have HC := Lib.hid hc
  clear hc
  obtain ⟨now, ex, fe, si, has, ⟨pid, non, tok, al, te, ki, co⟩, ot⟩ := k
  cases has
  · clear he
    simp only [Task.val, Look.val]
    go_enter Tryz.func152, Tryz.ntmps152
    go_wp2_with fail
    refine bodyPost_ret (v := .agg #[.int .u8 3, .int .i64 (-1)]) ?_ rfl ⟨rfl, (by repeat (first | with_reducible exact Below.refl _ _ | with_reducible assumption | with_reducible refine Below.alloc ?_ (by first | omega | (simp; done) | (simp; omega)) _ | with_reducible refine Below.setCell ?_ (by first | omega | (simp; done) | (simp; omega)) _ | with_reducible refine Below.drew ?_ | with_reducible refine below_drewN ?_ _ | with_reducible refine Below.next ?_ (by with_reducible assumption)))⟩
    simp [results, Tryz.results152, go_sem]
  · cases al
    · clear he
      simp only [Task.val, Look.val]
      go_enter Tryz.func152, Tryz.ntmps152
      go_wp2_with fail
      refine bodyPost_ret (v := .agg #[.int .u8 3, .int .i64 co]) ?_ rfl ⟨rfl, (by repeat (first | with_reducible exact Below.refl _ _ | with_reducible assumption | with_reducible refine Below.alloc ?_ (by first | omega | (simp; done) | (simp; omega)) _ | with_reducible refine Below.setCell ?_ (by first | omega | (simp; done) | (simp; omega)) _ | with_reducible refine Below.drew ?_ | with_reducible refine below_drewN ?_ _ | with_reducible refine Below.next ?_ (by with_reducible assumption)))⟩
      simp [results, Tryz.results152, go_sem]
    · simp only [Task.val, Look.val]
      go_enter Tryz.func152, Tryz.ntmps152
      go_wp2_with fail
      refine (HC.out _ (Since.of_below (by repeat (first | with_reducible exact Below.refl _ _ | with_reducible assumption | with_reducible refine Below.alloc ?_ (by first | omega | (simp; done) | (simp; omega)) _ | with_reducible refine Below.setCell ?_ (by first | omega | (simp; done) | (simp; omega)) _ | with_reducible refine Below.drew ?_ | with_reducible refine below_drewN ?_ _ | with_reducible refine Below.next ?_ (by with_reducible assumption)))) t ⟨now, ex, fe, si, true, ⟨pid, non, tok, true, te, ki, co⟩, ot⟩ A c).mono ?_
      rintro e w1 ⟨rfl, hb⟩
      obtain ⟨hbc, hbf⟩ := bcell hb
      have hz := hb.size
      simp at hz
      go_wp2_with fail
      refine bodyPost_ret (v := .agg #[.int .u8 (L t ⟨now, ex, fe, si, true, ⟨pid, non, tok, true, te, ki, co⟩, ot⟩), .int .i64 0]) ?_ rfl ⟨rfl, (by repeat (first | with_reducible exact Below.refl _ _ | with_reducible assumption | with_reducible refine Below.alloc ?_ (by first | omega | (simp; done) | (simp; omega)) _ | with_reducible refine Below.setCell ?_ (by first | omega | (simp; done) | (simp; omega)) _ | with_reducible refine Below.drew ?_ | with_reducible refine below_drewN ?_ _ | with_reducible refine Below.next ?_ (by with_reducible assumption)))⟩
      simp [results, Tryz.results152, go_sem, hbc, hz]

/-- 'with': a rule out of what is done in a state with a live process. -/
theorem mkWith_any (fid : FuncId) (cap : Value) (w : World) : Calls Tryz.prog 151 #[.func (.func fid) #[] #[cap]] w fun e w' => e = .returned (.func (.func 152) #[] #[.pointer (some ⟨w.heap.size, 0, none⟩)]) ∧ w' = w.alloc (.cells #[.func (.func fid) #[] #[cap]] 178) := by
  go_enter Tryz.func151, Tryz.ntmps151
  go_wp2_with fail
  go_ret
  exact ⟨rfl, rfl⟩

/-- A rule: a function value that says what is next. -/
def RuleAt (w : World) (v : Value) (F : Task → Look → Step) : Prop :=
  ∃ (fid : FuncId) (cap : Value), v = .func (.func fid) #[] #[cap] ∧ (∀ args w, (callFunc fid args).run Tryz.prog w = .ok (.enter fid args) w) ∧
    ∀ w', Since w w' → ∀ (t : Task) (k : Look) (A : Option Addr) (c : Nat), Calls Tryz.prog fid #[t.val A c, k.val, cap] w' fun e w'' => e = .returned (F t k).val ∧ Below w'.heap.size w' w''
theorem RuleAt.since {w w' : World} {v : Value} {F : Task → Look → Step} (h : RuleAt w v F) (hs : Since w w') : RuleAt w' v F := by
  obtain ⟨fid, cap, rfl, he, hc⟩ := h
  exact ⟨fid, cap, rfl, he, fun w'' h' => hc w'' (hs.trans h')⟩
def RulesAt (w : World) (b : Nat) : Prop := ∃ v0 v1 v2 v4 v5, MapAt w b .u8 [(0, v0), (3, v0), (1, v1), (2, v2), (4, v4), (5, v5)] ∧
  RuleAt w v0 startF ∧ RuleAt w v1 (withF live4) ∧ RuleAt w v2 (withF live5) ∧ RuleAt w v4 (withF live6) ∧ RuleAt w v5 (withF live7)
/-- All blocks but one are as they were. -/
def Keep (b : Nat) (w w' : World) : Prop := w.heap.size ≤ w'.heap.size ∧ ∀ k, k < w.heap.size → k ≠ b → w'.heap[k]? = w.heap[k]?
theorem Keep.trans {b : Nat} {w w' w'' : World} (h : Keep b w w') (k : Keep b w' w'') : Keep b w w'' :=
  ⟨Nat.le_trans h.1 k.1, fun i hi hn => (k.2 i (Nat.lt_of_lt_of_le hi h.1) hn).trans (h.2 i hi hn)⟩
theorem Keep.of {b : Nat} {w w' : World} (h : w.grownBy w' (some b)) : Keep b w w' := ⟨h.size, fun i hi hn => h.block i hi (fun e => hn (by injection e))⟩
theorem Keep.alloc {b : Nat} {w w' : World} {o : Obj} (h : Keep b (w.alloc o) w') : Keep b w w' :=
  Keep.trans (⟨by simp, fun i hi _ => Below.heap_alloc _ _ _ hi⟩) h
theorem rule_start {w : World} {g : Nat} (h : NoneAt w g) : RuleAt w (.func (.func 150) #[] #[.pointer (some ⟨g, 0, none⟩)]) startF :=
  ⟨_, _, rfl, enters_of Tryz.func150 (by kernel_rfl) rfl, fun w' hs t k A c => rule1_any t k A c g w' ((hs g (lt_of_block h)).trans h)⟩
theorem rule_with {w : World} {g : Nat} {v : Value} {L : Task → Look → Int} (h : w.heap[g]? = some (.cells #[v] 178 (0, 0))) (hv : LiveAt w v L) :
    RuleAt w (.func (.func 152) #[] #[.pointer (some ⟨g, 0, none⟩)]) (withF L) :=
  ⟨_, _, rfl, enters_of Tryz.func152 (by kernel_rfl) rfl, fun w' hs t k A c => with_anyN L v t k A c g w' ((hs g (lt_of_block h)).trans h) (hv.since hs)⟩
theorem live_4 {w : World} {g : Nat} (h : FirstAt w g) : LiveAt w (.func (.func 154) #[] #[.pointer (some ⟨g, 0, none⟩)]) live4 :=
  ⟨_, _, rfl, enters_of Tryz.func154 (by kernel_rfl) rfl, fun w' hs t k A c => rule4_any t k A c g w' (h.since hs)⟩
theorem live_5 {w : World} {g : Nat} (h : FirstAt w g) : LiveAt w (.func (.func 155) #[] #[.pointer (some ⟨g, 0, none⟩)]) live5 :=
  ⟨_, _, rfl, enters_of Tryz.func155 (by kernel_rfl) rfl, fun w' hs t k A c => rule5_any t k A c g w' (h.since hs)⟩
theorem live_6 {w : World} {g : Nat} (h : FirstAt w g) : LiveAt w (.func (.func 156) #[] #[.pointer (some ⟨g, 0, none⟩)]) live6 :=
  ⟨_, _, rfl, enters_of Tryz.func156 (by kernel_rfl) rfl, fun w' hs t k A c => rule6_any t k A c g w' (h.since hs)⟩
theorem live_7 {w : World} {g : Nat} (h : FirstAt w g) : LiveAt w (.func (.func 157) #[] #[.pointer (some ⟨g, 0, none⟩)]) live7 :=
  ⟨_, _, rfl, enters_of Tryz.func157 (by kernel_rfl) rfl, fun w' hs t k A c => rule7_any t k A c g w' (h.since hs)⟩
set_option maxHeartbeats 1000000 in
set_option maxRecDepth 100000 in
theorem rules_any (w : World) : Calls Tryz.prog 81 #[] w fun e w' => (∃ b, e = .returned (.map (some b)) ∧ RulesAt w' b) ∧ Below w.heap.size w w' := by
  have hmm := @run_makeMap Tryz.prog
  go_enter Tryz.func81, Tryz.ntmps81
  go_wp2_with (first
    | (refine wpList_insert_new rfl (.tmp 7) _ _ (.inl rfl) Tryz.underlying138 Tryz.underlying5 rfl (by first | assumption | exact MapAt.newAt _ _ _ (by simp) | exact MapAt.alloc (by assumption) _) _ _ rfl rfl (by rfl) ?_; intro w1 hm hg)
    | (go_at_call 151; refine (mkWith_any _ _ _).mono ?_; rintro e w' ⟨rfl, rfl⟩))
  rename_i wA hmA hgA wB hmB hgB wC hmC hgC wD hmD hgD wE hmE hgE
  obtain ⟨wF, hwF⟩ : ∃ wF, wF = w1 := ⟨_, rfl⟩
  subst hwF
  have hmF := hm
  have hgF := hg
  go_ret
  have zA : w.heap.size + 1 + 1 < wA.heap.size := hmA.lt
  have zB : w.heap.size + 1 + 1 < wB.heap.size := hmB.lt
  have zC : w.heap.size + 1 + 1 < wC.heap.size := hmC.lt
  have zD : w.heap.size + 1 + 1 < wD.heap.size := hmD.lt
  have zE : w.heap.size + 1 + 1 < wE.heap.size := hmE.lt
  have kA := Keep.of hgA; have kB := Keep.of hgB; have kC := Keep.of hgC; have kD := Keep.of hgD; have kE := Keep.of hgE; have kF := Keep.of hgF
  have kCF := kC.trans (kD.alloc.trans (kE.alloc.trans kF.alloc))
  have kDF := kD.trans (kE.alloc.trans kF.alloc)
  have kEF := kE.trans kF.alloc
  have kAF := kA.trans (kB.trans kCF.alloc)
  have h0 : NoneAt wF w.heap.size := by
    unfold NoneAt
    rw [kAF.2 _ (by simp <;> omega) (by omega), Below.heap_alloc _ _ _ (by simp <;> omega), Below.heap_alloc _ _ _ (by simp), heap_alloc_new]
  have h1 : FirstAt wF (w.heap.size + 1) := by
    unfold FirstAt
    have e : w.heap.size + 1 = (w.alloc (.cells #[Value.int .u8 0, .int .i64 0] 91)).heap.size := by simp
    rw [kAF.2 _ (by simp) (by omega), Below.heap_alloc _ _ _ (by simp), e, heap_alloc_new]
  have gC := (kCF.2 wB.heap.size (by simp) (by omega)).trans (heap_alloc_new _ _)
  have gD := (kDF.2 wC.heap.size (by simp) (by omega)).trans (heap_alloc_new _ _)
  have gE := (kEF.2 wD.heap.size (by simp) (by omega)).trans (heap_alloc_new _ _)
  have gF := (kF.2 wE.heap.size (by simp) (by omega)).trans (heap_alloc_new _ _)
  refine ⟨⟨_, rfl, _, _, _, _, _, hmF, rule_start h0, rule_with gC (live_4 h1), rule_with gD (live_5 h1), rule_with gE (live_6 h1), rule_with gF (live_7 h1)⟩, ?_⟩
  have b0 : Below w.heap.size w (((w.alloc (.cells #[Value.int .u8 0, .int .i64 0] 91)).alloc (.cells #[.func (.func 153) #[] #[]] 180)).alloc (.map #[] 0)) := (by repeat (first | with_reducible exact Below.refl _ _ | with_reducible assumption | with_reducible refine Below.alloc ?_ (by first | omega | (simp; done) | (simp; omega)) _ | with_reducible refine Below.setCell ?_ (by first | omega | (simp; done) | (simp; omega)) _ | with_reducible refine Below.drew ?_ | with_reducible refine below_drewN ?_ _ | with_reducible refine Below.next ?_ (by with_reducible assumption)))
  have hr : ∀ k, some (w.heap.size + 1 + 1) = some k → w.heap.size ≤ k := fun k hk => by injection hk with hk; omega
  exact ((((((b0.grown hgA (by simp <;> omega) hr).grown hgB (by omega) hr).alloc (by omega) _).grown hgC (by simp <;> omega) hr).alloc (by omega) _).grown hgD (by simp <;> omega) hr |>.alloc (by omega) _ |>.grown hgE (by simp <;> omega) hr |>.alloc (by omega) _ |>.grown hgF (by simp <;> omega) hr)
end Go.Proofs.YtdblhmpcilihnaaGreat
