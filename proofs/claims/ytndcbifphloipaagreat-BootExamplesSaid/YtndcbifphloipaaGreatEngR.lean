import Derived.Test.YtndcbifphloipaaGreatEngB
set_option linter.unusedSimpArgs false
set_option linter.unusedVariables false
namespace Go.Proofs.YtndcbifphloipaaGreat.E
open Go
set_option linter.unusedVariables false
set_option linter.unusedSimpArgs false

/-! The engine run outright, where all tests can be decided: a function that computes, and that it computes what the engine says. -/
def runC (P : Program) (o : Op) (fr : Fr) : Option AV :=
  match o with
  | .indexAddr t x ix => match ev fr ix with
    | .val (.int _ k) => match ev fr x with
      | .sl sz n f => match elemSz P t with
        | some e => bif Nat.beq e.size sz && (decide (0 ≤ k) && decide (k < n)) then some (.fptr sz n f k.toNat 0) else none
        | none => none
      | .hsl id sz off len _ _ => match elemSz P t with
        | some e => bif Nat.beq e.size sz && (decide (0 ≤ k) && decide (k < len)) then some (.hptr id sz (off + k.toNat) 0) else none
        | none => none
      | .hptr id sz i j => match arrOf P t with
        | some (n, e) => bif decide (0 ≤ k) && decide (k < n) then some (.hptr id sz i (j + k.toNat * e.size)) else none
        | none => none
      | _ => none
    | _ => none
  | .index t x ix => match ev fr ix with
    | .val (.int _ k) => match ev fr x with
      | .agg cs => match arrOf P t with
        | some (n, e) => bif decide (0 ≤ k) && decide (k < n) then partOf cs (k.toNat * e.size) e else none
        | none => none
      | _ => none
    | _ => none
  | .slice t x lo hi none => match elemSz P t with
    | some e => match ev fr x with
      | .sl sz n f => match optInt fr 0 lo, optInt fr n hi with
          | some l, some h => bif Nat.beq e.size sz && (decide (0 ≤ l) && (decide (l ≤ h) && decide (h ≤ n))) then some (.sl sz (h - l).toNat fun i => f (l.toNat + i)) else none
          | _, _ => none
      | .hsl id sz off len cap ex => match optInt fr 0 lo, optInt fr len hi with
          | some l, some h => bif Nat.beq e.size sz && (decide (0 ≤ l) && (decide (l ≤ h) && decide (h ≤ cap))) then some (.hsl id sz (off + l.toNat) (h - l).toNat (cap - l.toNat) ex) else none
          | _, _ => none
      | _ => none
    | none => none
  | .slice t x lo (some hi) (some mx) => match elemSz P t with
    | some e => match ev fr x with
      | .hsl id sz off len cap ex => match optInt fr 0 lo, asInt (ev fr hi), asInt (ev fr mx) with
          | some l, some h, some m => bif Nat.beq e.size sz && (decide (0 ≤ l) && (decide (l ≤ h) && (decide (h ≤ m) && decide (m ≤ cap)))) then some (.hsl id sz (off + l.toNat) (h - l).toNat (m - l).toNat true) else none
          | _, _, _ => none
      | _ => none
    | none => none
  | .slice _ _ _ none (some _) => none
  | o => (evC P o fr).map (·.2)
section
variable {P : Program} {fr fr1 : Fr} {H H' H1 : Hp} {K : AV → Hp → Prop}
theorem runC_sound {o : Op} {x : AV} (h : runC P o fr = some x) : ∃ c, evC P o fr = some (c, x) ∧ c := by
  have rest : (∀ p ∈ evC P o fr, p.1) → (evC P o fr).map (·.2) = some x → ∃ c, evC P o fr = some (c, x) ∧ c := fun hp hm => by
    obtain ⟨p, h1, h2⟩ := Option.map_eq_some_iff.1 hm
    exact ⟨p.1, by rw [h1, ← h2], hp p h1⟩
  unfold runC at h
  split at h
  · unfold evC
    split at h
    case h_2 => cases h
    rename_i kk k hk
    simp only [hk]
    split at h
    case h_4 => cases h
    · rename_i sz n f hx
      simp only [hx]
      split at h
      case h_2 => cases h
      rename_i e he
      simp only [he]
      cases hc : Nat.beq e.size sz && (decide (0 ≤ k) && decide (k < n)) <;> rw [hc] at h <;> simp only [cond_true, cond_false] at h
      · cases h
      · cases h
        simp only [Bool.and_eq_true, decide_eq_true_eq] at hc
        exact ⟨_, by rw [hc.1]; rfl, hc.2⟩
    · rename_i id sz off len cap ex hx
      simp only [hx]
      split at h
      case h_2 => cases h
      rename_i e he
      simp only [he]
      cases hc : Nat.beq e.size sz && (decide (0 ≤ k) && decide (k < len)) <;> rw [hc] at h <;> simp only [cond_true, cond_false] at h
      · cases h
      · cases h
        simp only [Bool.and_eq_true, decide_eq_true_eq] at hc
        exact ⟨_, by rw [hc.1]; rfl, hc.2⟩
    · rename_i id sz i j hx
      simp only [hx]
      split at h
      case h_2 => cases h
      rename_i n e he
      simp only [he]
      cases hc : decide (0 ≤ k) && decide (k < n) <;> rw [hc] at h <;> simp only [cond_true, cond_false] at h
      · cases h
      · cases h
        simp only [Bool.and_eq_true, decide_eq_true_eq] at hc
        exact ⟨_, rfl, hc⟩
  · unfold evC
    split at h
    case h_2 => cases h
    rename_i kk k hk
    simp only [hk]
    split at h
    case h_2 => cases h
    rename_i cs hx
    simp only [hx]
    split at h
    case h_2 => cases h
    rename_i n e he
    simp only [he]
    cases hc : decide (0 ≤ k) && decide (k < n) <;> rw [hc] at h <;> simp only [cond_true, cond_false] at h
    · cases h
    · rw [h]
      simp only [Bool.and_eq_true, decide_eq_true_eq] at hc
      exact ⟨_, rfl, hc⟩
  · unfold evC
    split at h
    case h_2 => cases h
    rename_i e he
    simp only [he]
    split at h
    case h_3 => cases h
    · rename_i sz n f hx
      simp only [hx]
      split at h
      case h_2 => cases h
      rename_i l hh h1 h2
      cases hc : Nat.beq e.size sz && (decide (0 ≤ l) && (decide (l ≤ hh) && decide (hh ≤ n))) <;> rw [hc] at h <;> simp only [cond_true, cond_false] at h
      · cases h
      · cases h
        simp only [Bool.and_eq_true, decide_eq_true_eq] at hc
        exact ⟨_, by simp only [h1, h2]; rw [hc.1]; rfl, hc.2⟩
    · rename_i id sz off len cap ex hx
      simp only [hx]
      split at h
      case h_2 => cases h
      rename_i l hh h1 h2
      cases hc : Nat.beq e.size sz && (decide (0 ≤ l) && (decide (l ≤ hh) && decide (hh ≤ cap))) <;> rw [hc] at h <;> simp only [cond_true, cond_false] at h
      · cases h
      · cases h
        simp only [Bool.and_eq_true, decide_eq_true_eq] at hc
        exact ⟨_, by simp only [h1, h2]; rw [hc.1]; rfl, hc.2⟩
  · unfold evC
    split at h
    case h_2 => cases h
    rename_i e he
    simp only [he]
    split at h
    case h_2 => cases h
    rename_i id sz off len cap ex hx
    simp only [hx]
    split at h
    case h_2 => cases h
    rename_i l hh m h1 h2 h3
    cases hc : Nat.beq e.size sz && (decide (0 ≤ l) && (decide (l ≤ hh) && (decide (hh ≤ m) && decide (m ≤ cap)))) <;> rw [hc] at h <;> simp only [cond_true, cond_false] at h
    · cases h
    · cases h
      simp only [Bool.and_eq_true, decide_eq_true_eq] at hc
      exact ⟨_, by simp only [h1, h2, h3]; rw [hc.1]; rfl, hc.2⟩
  · cases h
  · rename_i n1 n2 n3 n4 n5
    refine rest (fun p hp => ?_) h
    unfold evC at hp
    split at hp
    · exact (n1 _ _ _ rfl).elim
    · exact (n2 _ _ _ rfl).elim
    · exact (n3 _ _ _ _ rfl).elim
    · exact (n4 _ _ _ _ _ rfl).elim
    · split at hp
      case h_2 => cases hp
      split at hp
      case h_2 => cases hp
      split at hp
      case h_2 => cases hp
      cases hp; trivial
    · split at hp
      case h_3 => cases hp
      all_goals
        split at hp
        case h_2 => cases hp
        split at hp
        case h_2 => cases hp
        rename_i k a k' b _ _
        cases hc : decide (k = k') <;> rw [hc] at hp <;> simp only [cond_true, cond_false] at hp
        · cases hp
        · cases hp; trivial
    · cases hp

def runA (P : Program) (o : Op) (fr : Fr) (H : Hp) : Option (AV × Blk) :=
  match o with
  | .makeSlice t l c => match elemSz P t, ev fr l, ev fr c with
    | some e, .val (.int _ l), .val (.int _ c) => bif Nat.beq e.zero.length e.size && (decide (0 ≤ l) && (decide (l ≤ c) && (decide ((e.bytes : Int) * c ≤ 140737488355328) && decide (c ≤ 9223372036854775807)))) then
        some (.hsl H.next e.size 0 l.toNat c.toNat true, ⟨e.size, List.replicate c.toNat (e.zero.map .val), none⟩) else none
    | _, _, _ => none
  | o => (evA P o fr H).map (·.2)
theorem runA_sound {o : Op} {x : AV} {b : Blk} (h : runA P o fr H = some (x, b)) : ∃ c, evA P o fr H = some (c, x, b) ∧ c := by
  unfold runA at h
  split at h
  · unfold evA
    split at h
    case h_2 => cases h
    rename_i e k1 l k2 c h1 h2 h3
    simp only [h1, h2, h3]
    cases hc : Nat.beq e.zero.length e.size && (decide (0 ≤ l) && (decide (l ≤ c) && (decide ((e.bytes : Int) * c ≤ 140737488355328) && decide (c ≤ 9223372036854775807)))) <;> rw [hc] at h <;> simp only [cond_true, cond_false] at h
    · cases h
    · cases h
      simp only [Bool.and_eq_true, decide_eq_true_eq] at hc
      exact ⟨_, by rw [hc.1]; rfl, hc.2⟩
  · rename_i n1
    obtain ⟨p, h1, h2⟩ := Option.map_eq_some_iff.1 h
    refine ⟨p.1, by rw [h1, ← h2], ?_⟩
    unfold evA at h1
    split at h1
    · split at h1 <;> cases h1; trivial
    · split at h1 <;> cases h1; trivial
    · split at h1
      case h_2 => cases h1
      obtain ⟨_, h1⟩ := bif_some' h1
      split at h1 <;> cases h1; trivial
    · split at h1 <;> cases h1; trivial
    · exact (n1 _ _ _ rfl).elim
    · cases h1

def runLen (P : Program) (t : TypeId) (x : AV) (H : Hp) : Option (AV × Hp) :=
  match kd P t with
  | some k => match k.desc with
    | .slice _ => match x with
      | .sl _ n _ => some (.val (.int .i64 n), H)
      | .hsl _ _ _ n _ _ => some (.val (.int .i64 n), H)
      | .val (.slice none 0 0) => some (.val (.int .i64 0), H)
      | _ => none
    | _ => none
  | none => none
theorem runLen_sound {t : TypeId} {x y : AV} (h : runLen P t x H = some (y, H')) (hk : K y H') : evLen P t x H K := by
  unfold runLen at h; unfold evLen
  split at h
  case h_2 => cases h
  rename_i k hkd
  simp only [hkd]
  split at h
  case h_2 => cases h
  rename_i e he
  simp only [he]
  split at h
  · cases h; exact fun _ => hk
  · cases h; exact hk
  · cases h; exact hk
  · cases h

def oneB (X : List (List AV)) : Bool := X.all fun r => r.all AV.one
theorem oneB_sound {X : List (List AV)} (h : oneB X = true) : oneRows X := fun row hr y hy => List.all_eq_true.1 (List.all_eq_true.1 h row hr) y hy
def runAppend (P : Program) (t u : TypeId) (s x : AV) (H : Hp) : Option (AV × Hp) :=
  match elemSz P t, elemSz P u with
  | some e, some _ => bif Nat.beq e.zero.length e.size && Nat.ble 1 e.bytes then
      (match rowsOf H e.size x with
      | some X => match s with
        | .val (.slice none 0 0) => bif Nat.ble (X.length * e.bytes) 140737488355328 then some (.hsl H.next e.size 0 X.length X.length false, H.push ⟨e.size, X, none⟩) else none
        | .hsl id sz off len cap ex => bif Nat.beq sz e.size then
            (match H.get id with
            | some b => bif Nat.beq b.sz sz then
                (match ex with
                | true => bif Nat.ble (len + X.length) cap then
                    (bif Nat.ble (off + cap) b.rows.length && oneB X then some (.hsl id sz off (len + X.length) cap true, H.set id (some ⟨sz, overRows b.rows (off + len) X, none⟩)) else none)
                    else (bif Nat.ble (off + len) b.rows.length && Nat.ble ((len + X.length) * e.bytes) 140737488355328 then some (.hsl H.next sz 0 (len + X.length) (len + X.length) false, H.push ⟨sz, (b.rows.drop off).take len ++ X, none⟩) else none)
                | false => bif Nat.beq (off + len) b.rows.length && (oneB X && Nat.ble ((len + X.length) * e.bytes) 140737488355328) then
                    some (.hsl H.next sz 0 (len + X.length) (len + X.length) false, (H.set id none).push ⟨sz, b.rows.drop off ++ X, none⟩) else none) else none
            | none => none) else none
        | _ => none
      | none => none) else none
  | _, _ => none
theorem runAppend_sound {t u : TypeId} {s x y : AV} (h : runAppend P t u s x H = some (y, H')) (hk : K y H') : evAppend P t u s x H K := by
  unfold runAppend at h; unfold evAppend
  split at h
  case h_2 => cases h
  rename_i e e2 he he2
  simp only [he, he2]
  obtain ⟨hc, h⟩ := bif_some' h
  rw [hc]; simp only [cond_true]
  split at h
  case h_2 => cases h
  rename_i X hX
  simp only [hX]
  split at h
  case h_3 => cases h
  · obtain ⟨hc, h⟩ := bif_some' h
    cases h
    exact ⟨Nat.le_of_ble_eq_true hc, hk⟩
  · rename_i id sz off len cap ex _
    obtain ⟨hc, h⟩ := bif_some' h
    simp only [hc, cond_true]
    split at h
    case h_2 => cases h
    rename_i b hb
    simp only [hb]
    obtain ⟨hc, h⟩ := bif_some' h
    simp only [hc, cond_true]
    cases ex
    · obtain ⟨hc, h⟩ := bif_some' h
      cases h
      simp only [Bool.and_eq_true] at hc
      exact ⟨⟨Nat.eq_of_beq_eq_true hc.1, oneB_sound hc.2.1, Nat.le_of_ble_eq_true hc.2.2⟩, hk⟩
    · cases hle : Nat.ble (len + X.length) cap <;> rw [hle] at h <;> simp only [cond_true, cond_false] at h
      · obtain ⟨hc, h⟩ := bif_some' h
        cases h
        simp only [Bool.and_eq_true] at hc
        exact ⟨⟨Nat.le_of_ble_eq_true hc.1, Nat.le_of_ble_eq_true hc.2⟩, hk⟩
      · obtain ⟨hc, h⟩ := bif_some' h
        cases h
        simp only [Bool.and_eq_true] at hc
        exact ⟨⟨Nat.le_of_ble_eq_true hc.1, oneB_sound hc.2⟩, hk⟩

def runCopy (P : Program) (t : TypeId) (d x : AV) (H : Hp) : Option (AV × Hp) :=
  match elemSz P t with
  | some e => match rowsOf H e.size x with
    | some X => match d with
      | .hsl id sz off len _ _ => bif Nat.beq sz e.size then
          (match H.get id with
          | some b => bif Nat.beq b.sz sz && (Nat.ble (off + len) b.rows.length && (oneB X && Nat.ble X.length len)) then some (.val (.int .i64 X.length), H.set id (some ⟨sz, overRows b.rows off X, none⟩)) else none
          | none => none) else none
      | _ => none
    | none => none
  | none => none
theorem runCopy_sound {t : TypeId} {d x y : AV} (h : runCopy P t d x H = some (y, H')) (hk : K y H') : evCopy P t d x H K := by
  unfold runCopy at h; unfold evCopy
  split at h
  case h_2 => cases h
  rename_i e he
  simp only [he]
  split at h
  case h_2 => cases h
  rename_i X hX
  simp only [hX]
  split at h
  case h_2 => cases h
  obtain ⟨hc, h⟩ := bif_some' h
  simp only [hc, cond_true]
  split at h
  case h_2 => cases h
  rename_i b hb
  simp only [hb]
  obtain ⟨hc, h⟩ := bif_some' h
  cases h
  simp only [Bool.and_eq_true] at hc
  rw [hc.1]
  exact ⟨⟨Nat.le_of_ble_eq_true hc.2.1, oneB_sound hc.2.2.1, Nat.le_of_ble_eq_true hc.2.2.2⟩, hk⟩

def runTab (ok : Bool) (z : AV) (n : Int) : List (Int × AV) → AV
  | [] => bif ok then .tup [z, .val (.bool false)] else z
  | (m, x) :: l => bif decide (n = m) then (bif ok then .tup [x, .val (.bool true)] else x) else runTab ok z n l
theorem runTab_sound {ok : Bool} {z : AV} {n : Int} {K : AV → Prop} : ∀ {l : List (Int × AV)}, K (runTab ok z n l) → evTab K ok z n l
  | [], h => h
  | (m, x) :: l, h => by
    unfold runTab at h
    unfold evTab
    cases hc : decide (n = m) <;> rw [hc] at h
    · exact runTab_sound (l := l) h
    · exact h
def runLook (P : Program) (t : TypeId) (H : Hp) (m k : AV) (ok : Bool) : Option AV :=
  match mapOf P t with
  | some (.int _, e) => match m with
    | .mp id => match H.get id with
      | some b => match b.mp with
        | some (.bset kk p) => match ok, k, e.desc with
          | false, .val (.int k' n), .bool => bif decide (k' = kk) then (match e.zv with | .bool false => some (.val (.bool (p n))) | _ => none) else none
          | _, _, _ => none
        | some (.tab kk l) => match k, zeroAV e with
          | .val (.int k' n), some z => bif decide (k' = kk) then some (runTab ok z n l) else none
          | _, _ => none
        | none => none
      | none => none
    | _ => none
  | _ => none
theorem runLook_sound {t : TypeId} {m k y : AV} {ok : Bool} (h : runLook P t H m k ok = some y) (hk : K y H) : evLook P t H m k ok K := by
  unfold runLook at h; unfold evLook
  split at h
  case h_2 => cases h
  rename_i kx e he
  simp only [he]
  split at h
  case h_2 => cases h
  split at h
  case h_2 => cases h
  rename_i b hb
  simp only [hb]
  split at h
  case h_3 => cases h
  · rename_i kk p hp
    simp only [hp]
    split at h
    case h_2 => cases h
    rename_i k' n hd
    simp only [hd]
    obtain ⟨hc, h⟩ := bif_some' h
    rw [hc]; simp only [cond_true]
    split at h
    case h_2 => cases h
    rename_i hz
    simp only [hz]
    cases h; exact hk
  · rename_i kk l hp
    simp only [hp]
    split at h
    case h_2 => cases h
    rename_i k' n z hz
    simp only [hz]
    obtain ⟨hc, h⟩ := bif_some' h
    rw [hc]; simp only [cond_true]
    cases h; exact runTab_sound hk

abbrev RunF := FuncId → List AV → Hp → Option (AV × Hp)
def keepH (H : Hp) : Option AV → Option (AV × Hp)
  | some x => some (x, H)
  | none => none
def pushH (H : Hp) : Option (AV × Blk) → Option (AV × Hp)
  | some (x, b) => some (x, H.push b)
  | none => none
def junkH : Option Hp → Option (AV × Hp)
  | some H => some (.junk, H)
  | none => none
def runOp (P : Program) (R : RunF) (o : Op) (fr : Fr) (H : Hp) : Option (AV × Hp) :=
  match o with
  | .pick c a b => match ev fr c with
    | .val (.bool t) => some (bif t then ev fr a else ev fr b, H)
    | _ => none
  | .alloc t => pushH H (runA P (.alloc t) fr H)
  | .box t x => pushH H (runA P (.box t x) fr H)
  | .buildSlice t n ps => pushH H (runA P (.buildSlice t n ps) fr H)
  | .makeSlice t l c => pushH H (runA P (.makeSlice t l c) fr H)
  | .makeMap t r => pushH H (runA P (.makeMap t r) fr H)
  | .mapUpdate t m k x => junkH (evUp P t H (ev fr m) (ev fr k) (ev fr x))
  | .insert t m k x => junkH (evUp P t H (ev fr m) (ev fr k) (ev fr x))
  | .lookup t m k ok => keepH H (runLook P t H (ev fr m) (ev fr k) ok)
  | .store t x v => junkH (evStore P t H (ev fr x) (ev fr v))
  | .indexAddr t x ix => keepH H (runC P (.indexAddr t x ix) fr)
  | .index t x ix => keepH H (runC P (.index t x ix) fr)
  | .slice t x l h m => keepH H (runC P (.slice t x l h m) fr)
  | .convert s d x => keepH H (runC P (.convert s d x) fr)
  | .call c => match c.callee with
    | .builtin .len => match c.args.toList, c.argTypes.toList with
      | [x], t :: _ => runLen P t (ev fr x) H
      | _, _ => none
    | .builtin .append => match c.args.toList, c.argTypes.toList with
      | [s, x], [t, u] => runAppend P t u (ev fr s) (ev fr x) H
      | _, _ => none
    | .builtin .copy => match c.args.toList, c.argTypes.toList with
      | [d, x], t :: _ => runCopy P t (ev fr d) (ev fr x) H
      | _, _ => none
    | .builtin .min => keepH H (runC P (.call c) fr)
    | .builtin .max => keepH H (runC P (.call c) fr)
    | .value f => match ev fr f with
      | .fn (.func g) first cap => R g (first ++ c.args.toList.map (ev fr) ++ cap) H
      | _ => none
    | _ => none
  | o => keepH H (evN P o fr H)
theorem keepH_some {z : Option AV} {x : AV} (h : keepH H z = some (x, H')) : z = some x ∧ H' = H := by
  cases z <;> cases h; exact ⟨rfl, rfl⟩
theorem pushH_some {z : Option (AV × Blk)} {x : AV} (h : pushH H z = some (x, H')) : ∃ b, z = some (x, b) ∧ H' = H.push b := by
  cases z <;> cases h; exact ⟨_, rfl, rfl⟩
theorem junkH_some {z : Option Hp} {x : AV} (h : junkH z = some (x, H')) : z = some H' ∧ x = .junk := by
  cases z <;> cases h; exact ⟨rfl, rfl⟩
theorem runOp_sound {C : CallT} {R : RunF} (hR : ∀ g args H x H', R g args H = some (x, H') → ∀ K : AV → Hp → Prop, K x H' → C g args H K) {o : Op} {x : AV}
    (h : runOp P R o fr H = some (x, H')) (hk : K x H') : evOp P C o fr H K := by
  have neu : keepH H (evN P o fr H) = some (x, H') → asK K H (evN P o fr H) := fun h => by
    obtain ⟨h1, rfl⟩ := keepH_some h; rw [h1]; exact hk
  have neC : keepH H (runC P o fr) = some (x, H') → asC K H (evC P o fr) := fun h => by
    obtain ⟨h1, rfl⟩ := keepH_some h
    obtain ⟨c, h2, h3⟩ := runC_sound h1
    rw [h2]; exact ⟨h3, hk⟩
  have neA : pushH H (runA P o fr H) = some (x, H') → asA K H (evA P o fr H) := fun h => by
    obtain ⟨b, h1, rfl⟩ := pushH_some h
    obtain ⟨c, h2, h3⟩ := runA_sound h1
    rw [h2]; exact ⟨h3, hk⟩
  cases o <;> try (first | exact neu h | exact neC h | exact neA h)
  case mapUpdate t m k y =>
    obtain ⟨h1, rfl⟩ := junkH_some h
    simp only [evOp, h1]; exact hk
  case insert t m k y =>
    obtain ⟨h1, rfl⟩ := junkH_some h
    simp only [evOp, h1]; exact hk
  case store t m k =>
    obtain ⟨h1, rfl⟩ := junkH_some h
    simp only [evOp, h1]; exact hk
  case lookup t m k ok =>
    obtain ⟨h1, rfl⟩ := keepH_some h
    exact runLook_sound h1 hk
  case pick c a b =>
    simp only [runOp] at h
    simp only [evOp]
    split at h
    case h_2 => cases h
    rename_i t ht
    cases h
    rw [ht]
    cases t <;> exact hk
  case call c =>
    obtain ⟨callee, args, tys⟩ := c
    cases callee with
    | value f =>
      simp only [runOp] at h
      simp only [evOp]
      split at h
      case h_2 => cases h
      rename_i g first cap hg
      rw [hg]
      exact hR _ _ _ _ _ h _ hk
    | invoke r m => cases h
    | builtin b =>
      cases b <;> try (first | (cases h; done) | exact neC h)
      · simp only [runOp] at h
        simp only [evOp]
        split at h
        case h_2 => cases h
        rename_i ha ht
        simp only [ha, ht]
        exact runAppend_sound h hk
      · simp only [runOp] at h
        simp only [evOp]
        split at h
        case h_2 => cases h
        rename_i ha ht
        simp only [ha, ht]
        exact runCopy_sound h hk
      · simp only [runOp] at h
        simp only [evOp]
        split at h
        case h_2 => cases h
        rename_i ha ht
        simp only [ha, ht]
        exact runLen_sound h hk
end
end Go.Proofs.YtndcbifphloipaaGreat.E

namespace Go.Proofs.YtndcbifphloipaaGreat.E
open Go
set_option linter.unusedVariables false
set_option linter.unusedSimpArgs false

section
variable {N n0 : Nat} {σ : Sg} {F : Nat → Prop} {H H1 : Hp} {w : World} {fr fr1 : Fr}
/-- A picture that says the same. -/
theorem Wk.same (hf : ∀ t, look fr1 t = look fr t) (hn : H1.next = H.next) (hg : ∀ id, H1.get id = H.get id) : Wk n0 fr H fr1 H1 := ⟨fun σ F w tmps hn0 hw hfr => by
  refine ⟨σ, F, ⟨⟨hn0, by rw [hn]; exact hn0⟩, fun _ _ => rfl, fun _ h => h, fun _ h => .inl h, fun _ _ _ => rfl, fun b cs el z h => ⟨cs, h, rfl⟩, fun b ⟨id, blk, o, h1, h2⟩ => .inl ⟨id, blk, o, by rw [← hg]; exact h1, h2⟩, Nat.le_refl _, rfl, rfl, rfl⟩, ⟨fun id blk h => ?_, fun id id' blk blk' b o o' h h' => ?_, hw.frz⟩, fun t => ?_⟩
  · rw [hg] at h; rw [hn]; exact hw.own id blk h
  · rw [hg] at h h'; exact hw.inj id id' blk blk' b o o' h h'
  · rw [hf, hn]; exact hfr t⟩

def cvRow (f : AV → Option FV) : List AV → Option (List FV)
  | [] => some []
  | x :: l => match f x, cvRow f l with
    | some y, some m => some (y :: m)
    | _, _ => none
def cvRows (f : AV → Option FV) : List (List AV) → Option (List (List FV))
  | [] => some []
  | x :: l => match cvRow f x, cvRows f l with
    | some y, some m => some (y :: m)
    | _, _ => none
theorem cvRow_get {f : AV → Option FV} : ∀ {l : List AV} {m : List FV}, cvRow f l = some m → m.length = l.length ∧ ∀ (i : Nat) (y : FV), m[i]? = some y → ∃ x, l[i]? = some x ∧ f x = some y
  | [], m, h => by cases h; exact ⟨rfl, fun i y h => by simp at h⟩
  | x :: l, m, h => by
    unfold cvRow at h
    split at h
    case h_2 => cases h
    rename_i y m' h1 h2
    cases h
    obtain ⟨e, ih⟩ := cvRow_get h2
    refine ⟨by simp [e], fun i z hz => ?_⟩
    cases i with
    | zero => simp at hz; subst hz; exact ⟨x, rfl, h1⟩
    | succ i => simpa using ih i z (by simpa using hz)
theorem cvRows_get {f : AV → Option FV} : ∀ {l : List (List AV)} {m : List (List FV)}, cvRows f l = some m → m.length = l.length ∧ ∀ (i : Nat) (y : List FV), m[i]? = some y → ∃ x, l[i]? = some x ∧ cvRow f x = some y
  | [], m, h => by cases h; exact ⟨rfl, fun i y h => by simp at h⟩
  | x :: l, m, h => by
    unfold cvRows at h
    split at h
    case h_2 => cases h
    rename_i y m' h1 h2
    cases h
    obtain ⟨e, ih⟩ := cvRows_get h2
    refine ⟨by simp [e], fun i z hz => ?_⟩
    cases i with
    | zero => simp at hz; subst hz; exact ⟨x, rfl, h1⟩
    | succ i => simpa using ih i z (by simpa using hz)
/-- A value as it lies in memory once the blocks S are frozen. -/
def cv (H : Hp) (S : Nat → Bool) : Nat → AV → Option FV
  | 0, _ => none
  | d + 1, x => match x with
    | .val v => some (.val v)
    | .sl sz n f => some (.sl sz n f)
    | .hsl id sz off len cap ex => bif S id then (match H.get id with
        | some b => bif Nat.beq b.sz sz && Nat.ble (off + len) b.rows.length then (match cvRows (cv H S d) ((b.rows.drop off).take len) with
            | some rows => some (.sl sz len fun i => rows.getD i [])
            | none => none) else none
        | none => none) else none
    | _ => none
def fzV (H : Hp) (S : Nat → Bool) : Nat → AV → AV
  | 0, _ => .junk
  | d + 1, x => match x with
    | .agg cs => .agg (cs.map (fzV H S d))
    | .tup cs => .tup (cs.map (fzV H S d))
    | .fn f a b => .fn f (a.map (fzV H S d)) (b.map (fzV H S d))
    | .hsl id sz off len cap ex => bif S id then (match cv H S (d + 1) (.hsl id sz off len cap ex) with
        | some y => y.up
        | none => .junk) else .hsl id sz off len cap ex
    | .hptr id sz i j => bif S id then .junk else .hptr id sz i j
    | .mp id => bif S id then .junk else .mp id
    | .val v => .val v
    | .sl sz n f => .sl sz n f
    | .fptr sz n f i j => .fptr sz n f i j
    | .junk => .junk
def FS (F : Nat → Prop) (σ : Sg) (H : Hp) (S : Nat → Bool) : Nat → Prop := fun b => F b ∨ ∃ id blk o, S id = true ∧ H.get id = some blk ∧ σ id = some (b, o)
theorem AR.liftS {S : Nat → Bool} {x : AV} {v : Value} (h : AR N σ F w x v) : AR N σ (FS F σ H S) w x v :=
  h.mono (fun id hid => ⟨hid, rfl⟩) (fun _ h => .inl h) (fun _ _ => rfl) (fun b cs el z h => ⟨cs, h, rfl⟩)
theorem cv_sound (hw : WR σ F H w) {S : Nat → Bool} : ∀ (d : Nat) (x : AV) (y : FV) (v : Value), cv H S d x = some y → AR H.next σ F w x v → FRel (FS F σ H S) w y v
  | 0, _, _, _, h, _ => by cases h
  | d + 1, x, y, v, h, ha => by
    unfold cv at h
    split at h
    · cases h; cases ha; exact .val _
    · cases h
      cases ha with
      | sl _ _ _ _ hh => exact hh.mono (fun _ h => .inl h) (fun _ _ => rfl)
    · rename_i id sz off len cap ex
      obtain ⟨hS, h⟩ := bif_some' h
      split at h
      case h_2 => cases h
      rename_i blk hg
      obtain ⟨hc, h⟩ := bif_some' h
      simp only [Bool.and_eq_true] at hc
      have hsz := Nat.eq_of_beq_eq_true hc.1
      have hle := Nat.le_of_ble_eq_true hc.2
      split at h
      case h_2 => cases h
      rename_i rows hr
      cases h
      obtain ⟨el, hrow⟩ := cvRows_get hr
      have hlen : rows.length = len := by rw [el]; simp; omega
      have hget : ∀ i, i < len → ∃ x, blk.rows[off + i]? = some x ∧ cvRow (cv H S d) x = some (rows.getD i []) := fun i hi => by
        obtain ⟨x, h1, h2⟩ := hrow i (rows.getD i []) (by simp [List.getD_eq_getElem?_getD, show i < rows.length by omega])
        rw [List.getElem?_take, if_pos hi, List.getElem?_drop] at h1
        exact ⟨x, h1, h2⟩
      cases ha with
      | hnil _ _ _ _ hs hN =>
        exact .sl _ _ _ none 0 (fun _ _ => undef) 0 0 (by simp) (fun h => absurd h (by omega)) (fun i hi => absurd hi (by omega)) (fun i j hi => absurd hi (by omega)) (fun i j x hi => absurd hi (by omega))
      | hsl _ _ _ _ _ _ A b o c hs hN hl hcap hx' hm hA hA0 room =>
        rcases (hw.own _ _ hg).2 with ⟨h1, h2, h3⟩ | ⟨b2, o2, h2, nf, ⟨cs, elx, h5, h6, h8, h7⟩ | ⟨g1, g2, m, g3, g4⟩⟩
        · rw [hs] at h2; cases h2
        · rw [hs] at h2; cases h2
          refine .sl sz len _ A c (fun i j => cs.getD (o + ((off + i) * blk.sz + j)) undef) b (o + off * sz) ⟨by omega, hm⟩ (fun h => ⟨hA (by omega), .inr ⟨id, blk, o, hS, hg, hs⟩⟩) (fun i hi => ?_) (fun i j hi hj => ?_) (fun i j x hi hxx => ?_)
          · obtain ⟨r, h1, h2⟩ := hget i hi
            rw [(cvRow_get h2).1, (h7 _ _ h1).1, hsz]
          · obtain ⟨r, h1, h2⟩ := hget i hi
            have h9 := (h7 _ _ h1).1
            have hb := (List.getElem?_eq_some_iff.1 h1).1
            have hlt : o + ((off + i) * blk.sz + j) < cs.size := by
              have : (off + i + 1) * blk.sz ≤ blk.rows.length * blk.sz := Nat.mul_le_mul_right _ hb
              rw [Nat.add_mul, Nat.one_mul] at this
              omega
            have e1 : o + off * sz + (i * sz + j) = o + ((off + i) * blk.sz + j) := by rw [hsz, Nat.add_mul]; omega
            rw [e1]
            simp [World.cell?, h5, Array.getD_eq_getD_getElem?, hlt]
          · obtain ⟨r, h1, h2⟩ := hget i hi
            obtain ⟨z, h3, h4⟩ := (cvRow_get h2).2 j x hxx
            exact cv_sound hw d z x _ h4 ((h7 _ _ h1).2 j z h3)
        · rw [hs] at h2; cases h2
          obtain ⟨cs, el2, q1, q2⟩ := room
          obtain ⟨es, ck, hm'⟩ := g4.lt
          rw [q1] at hm'; cases hm'
    · cases h
theorem fzV_sound (hw : WR σ F H w) {S : Nat → Bool} : ∀ (d : Nat) (x : AV) (v : Value), AR H.next σ F w x v → AR H.next σ (FS F σ H S) w (fzV H S d x) v
  | 0, _, v, _ => .junk v
  | d + 1, x, v, ha => by
    have ls : ∀ (cs : List AV) (vs : Array Value), (∀ i x, cs[i]? = some x → AR H.next σ F w x (vs.getD i undef)) → ∀ (i : Nat) x, (cs.map (fzV H S d))[i]? = some x → AR H.next σ (FS F σ H S) w x (vs.getD i undef) := fun cs vs h i x hx => by
      rw [List.getElem?_map] at hx
      obtain ⟨y, hy, rfl⟩ := Option.map_eq_some_iff.1 hx
      exact fzV_sound hw d y _ (h i y hy)
    unfold fzV
    split
    · cases ha with
      | agg _ vs hl h => exact .agg _ vs (by simpa using hl) (ls _ _ h)
    · cases ha with
      | tup _ vs hl h => exact .tup _ vs (by simpa using hl) (ls _ _ h)
    · cases ha with
      | fn _ _ _ v1 v2 l1 l2 h1 h2 => exact .fn _ _ _ v1 v2 (by simpa using l1) (by simpa using l2) (ls _ _ h1) (ls _ _ h2)
    · rename_i id sz off len cap ex
      cases hS : S id <;> simp only [cond_true, cond_false]
      · exact ha.liftS
      · split
        · rename_i y hy
          have := cv_sound hw (d + 1) _ y v hy ha
          cases this with
          | val v => exact .val _
          | sl sz n f A c u b off h1 h2 h3 h4 h5 => exact .sl _ _ _ _ (.sl sz n f A c u b off h1 h2 h3 h4 h5)
        · exact .junk v
    · rename_i id sz i j
      cases hS : S id <;> simp only [cond_true, cond_false]
      · exact ha.liftS
      · exact .junk v
    · rename_i id
      cases hS : S id <;> simp only [cond_true, cond_false]
      · exact ha.liftS
      · exact .junk v
    · exact ha.liftS
    · exact ha.liftS
    · exact ha.liftS
    · exact .junk v
def fzM (H : Hp) (S : Nat → Bool) : Option MB → Option MB
  | some (.tab k l) => some (.tab k (l.map fun q => (q.1, fzV H S 5 q.2)))
  | m => m
def fzB (H : Hp) (S : Nat → Bool) (b : Blk) : Blk := ⟨b.sz, b.rows.map fun r => r.map (fzV H S 5), fzM H S b.mp⟩
def fzO (H : Hp) (S : Nat → Bool) (id : Nat) (b : Option Blk) : Option Blk := bif S id then none else match b with
  | some b => some (fzB H S b)
  | none => none
def fzEs (H : Hp) (S : Nat → Bool) (es : List (Nat × Option Blk)) : List (Nat × Option Blk) := es.map fun p => (p.1, fzO H S p.1 p.2)
def fzFrm (H : Hp) (S : Nat → Bool) (fr : Fr) : Fr := fr.map fun p => (p.1, fzV H S 5 p.2)
theorem fzEs_get {S : Nat → Bool} : ∀ (es : List (Nat × Option Blk)) (id : Nat), blkOf (fzEs H S es) id = fzO H S id (blkOf es id)
  | [], id => by simp only [fzEs, List.map_nil, blkOf, fzO]; cases S id <;> rfl
  | (k, b) :: es, id => by
    have ih := fzEs_get (S := S) es id
    simp only [fzEs, List.map_cons, blkOf, beq_eq] at ih ⊢
    by_cases c : k = id
    · subst c; simp
    · simp only [c, decide_false, cond_false]; exact ih
theorem fzFr_get {S : Nat → Bool} : ∀ (fr : Fr) (t : Nat), look (fzFrm H S fr) t = fzV H S 5 (look fr t)
  | [], t => rfl
  | (k, x) :: fr, t => by
    have ih := fzFr_get (S := S) fr t
    simp only [fzFrm, List.map_cons, look_cons] at ih ⊢
    by_cases c : k = t
    · subst c; simp
    · rw [if_neg c, if_neg c]; exact ih
theorem fzO_some {S : Nat → Bool} {id : Nat} {o : Option Blk} {b : Blk} (h : fzO H S id o = some b) : S id = false ∧ ∃ b0, o = some b0 ∧ b = fzB H S b0 := by
  unfold fzO at h
  cases hS : S id <;> rw [hS] at h <;> simp only [cond_true, cond_false] at h
  · refine ⟨rfl, ?_⟩
    cases o with
    | none => cases h
    | some b0 => cases h; exact ⟨b0, rfl, rfl⟩
  · cases h
/-- Blocks are frozen, wherever they are named. -/
theorem Wk.fzS (S : Nat → Bool) : Wk n0 fr H (fzFrm H S fr) ⟨H.next, fzEs H S H.es⟩ := ⟨fun σ F w tmps hn hw hfr => by
  have hget : ∀ id b, (⟨H.next, fzEs H S H.es⟩ : Hp).get id = some b → S id = false ∧ ∃ b0, H.get id = some b0 ∧ b = fzB H S b0 := fun id b h => by
    have : fzO H S id (H.get id) = some b := by rw [← h]; exact (fzEs_get _ _).symm
    exact fzO_some this
  have hF' : ∀ b, FS F σ H S b → b < w.heap.size := fun b hb => by
    rcases hb with h | ⟨id, blk, o, _, h1, h2⟩
    · exact hw.frz b h
    · exact hw.liveLt ⟨id, blk, o, h1, h2⟩
  refine ⟨σ, FS F σ H S, ⟨⟨hn, hn⟩, fun _ _ => rfl, fun _ h => .inl h, fun b hb => hb.elim .inl (fun ⟨id, blk, o, _, h1, h2⟩ => .inr (.inr ⟨id, blk, o, h1, h2⟩)), fun _ _ _ => rfl, fun b cs el z h => ⟨cs, h, rfl⟩, fun b ⟨k, bl, o, h1, h2⟩ => by
      obtain ⟨_, b0, h3, _⟩ := hget k bl h1
      exact .inl ⟨k, b0, o, h3, h2⟩, Nat.le_refl _, rfl, rfl, rfl⟩, ⟨fun id blk h => ?_, fun k k' b b' c o o' h h' => ?_, hF'⟩, fun t => ?_⟩
  · obtain ⟨hS, b0, h1, rfl⟩ := hget id blk h
    refine ⟨(hw.own id b0 h1).1, ?_⟩
    have hnf : ∀ {c o}, σ id = some (c, o) → ¬ F c → ¬ FS F σ H S c := fun {c o} h2 h3 hc => by
      rcases hc with hc | ⟨id', blk', o', q1, q2, q3⟩
      · exact h3 hc
      · have := hw.inj id id' b0 blk' c o o' h1 q2 h2 q3
        rw [this, q1] at hS; cases hS
    rcases (hw.own id b0 h1).2 with ⟨h2, h3, h4⟩ | ⟨c, o, h2, nf, ⟨cs, el, h5, h6, h8, h7⟩ | ⟨g1, g2, m, g3, g4⟩⟩
    · exact .inl ⟨by simp [fzB, h2], h3, by simp [fzB, h4, fzM]⟩
    · refine .inr ⟨c, o, h2, hnf h2 nf, .inl ⟨cs, el, h5, by simpa [fzB] using h6, by simp [fzB, h8, fzM], fun i row hrow => ?_⟩⟩
      simp only [fzB, List.getElem?_map] at hrow
      obtain ⟨r0, hr0, rfl⟩ := Option.map_eq_some_iff.1 hrow
      refine ⟨by simpa [fzB] using (h7 i r0 hr0).1, fun j x hx => ?_⟩
      rw [List.getElem?_map] at hx
      obtain ⟨y, hy, rfl⟩ := Option.map_eq_some_iff.1 hx
      exact fzV_sound hw 5 y _ ((h7 i r0 hr0).2 j y hy)
    · have hMA : ∃ m', fzM H S (some m) = some m' ∧ MAt H.next σ (FS F σ H S) w m' c := by
        cases m with
        | bset k p => exact ⟨_, rfl, g4⟩
        | tab k l =>
          obtain ⟨es, ck, q1, q2, q3⟩ := g4
          refine ⟨_, rfl, es, ck, q1, by simpa using q2, fun i q hq => ?_⟩
          rw [List.getElem?_map] at hq
          obtain ⟨q0, hq0, rfl⟩ := Option.map_eq_some_iff.1 hq
          obtain ⟨e, e1, e2, e3⟩ := q3 i q0 hq0
          exact ⟨e, e1, e2, fzV_sound hw 5 _ _ e3⟩
      obtain ⟨m', q1, q2⟩ := hMA
      exact .inr ⟨c, o, h2, hnf h2 nf, .inr ⟨by simp [fzB, g1], g2, m', by simp only [fzB, g3]; exact q1, q2⟩⟩
  · obtain ⟨_, b0, h1, _⟩ := hget k b h
    obtain ⟨_, b0', h1', _⟩ := hget k' b' h'
    exact hw.inj k k' b0 b0' c o o' h1 h1'
  · rw [fzFr_get]
    exact fzV_sound hw 5 _ _ (hfr t)⟩

/-- Which slices' blocks there are. -/
def hslN : Nat → AV → List Nat
  | 0, _ => []
  | d + 1, x => match x with
    | .agg cs => (cs.map (hslN d)).flatten
    | .tup cs => (cs.map (hslN d)).flatten
    | .hsl id _ _ _ _ _ => [id]
    | _ => []
def hslH : List (Nat × Option Blk) → List Nat
  | [] => []
  | (_, some b) :: l => (b.rows.map fun r => (r.map (hslN 3)).flatten).flatten ++ hslH l
  | (_, none) :: l => hslH l
def memN (l : List Nat) (k : Nat) : Bool := l.any fun x => Nat.beq x k
def fzList (n0 : Nat) (fr : Fr) (H : Hp) : List Nat :=
  let L := ((fr.map fun p => hslN 3 p.2).flatten ++ hslH H.es).filter fun id => Nat.ble n0 id && (H.get id).isSome
  L.filter fun id => match H.get id with
    | some b => (cvRows (cv H (memN L) 5) b.rows).isSome
    | none => false
def fzAll (n0 : Nat) (fr : Fr) (H : Hp) : Fr × Hp :=
  match fzList n0 fr H with
  | [] => (fr, H)
  | L => (fzFrm H (memN L) fr, ⟨H.next, fzEs H (memN L) H.es⟩)
theorem Wk.fzA (k : Nat) : Wk n0 fr H (fzAll k fr H).1 (fzAll k fr H).2 := by
  unfold fzAll
  split
  · exact Wk.refl _ _ _
  · exact Wk.fzS _
/-- One entry a slot, one a block. -/
def dedF (seen : List Nat) : Fr → Fr
  | [] => []
  | (t, x) :: l => bif memN seen t then dedF seen l else (t, x) :: dedF (t :: seen) l
def dedH (seen : List Nat) : List (Nat × Option Blk) → List (Nat × Option Blk)
  | [] => []
  | (t, some x) :: l => bif memN seen t then dedH seen l else (t, some x) :: dedH (t :: seen) l
  | (t, none) :: l => bif memN seen t then dedH seen l else dedH (t :: seen) l
theorem memN_iff {l : List Nat} {k : Nat} : memN l k = true ↔ k ∈ l := by
  unfold memN
  rw [List.any_eq_true]
  constructor
  · rintro ⟨x, hx, h⟩; rw [Nat.eq_of_beq_eq_true h] at hx; exact hx
  · intro h; exact ⟨k, h, Nat.beq_refl k⟩
theorem dedF_look : ∀ (fr : Fr) (seen : List Nat) (t : Nat), t ∉ seen → look (dedF seen fr) t = look fr t
  | [], _, _, _ => rfl
  | (k, x) :: fr, seen, t, h => by
    unfold dedF
    cases hm : memN seen k <;> simp only [cond_true, cond_false]
    · rw [look_cons, look_cons]
      by_cases c : k = t
      · rw [if_pos c, if_pos c]
      · rw [if_neg c, if_neg c]
        exact dedF_look fr (k :: seen) t (by simp; exact ⟨fun e => c e.symm, h⟩)
    · rw [look_cons, if_neg (fun (e : k = t) => h (e ▸ memN_iff.1 hm))]
      exact dedF_look fr seen t h
theorem dedH_seen : ∀ (es : List (Nat × Option Blk)) (seen : List Nat) (t : Nat), t ∈ seen → blkOf (dedH seen es) t = none
  | [], _, _, _ => rfl
  | (k, none) :: es, seen, t, h => by
    unfold dedH
    cases hm : memN seen k <;> simp only [cond_true, cond_false]
    · exact dedH_seen es _ t (List.mem_cons_of_mem _ h)
    · exact dedH_seen es _ t h
  | (k, some x) :: es, seen, t, h => by
    unfold dedH
    cases hm : memN seen k <;> simp only [cond_true, cond_false, blkOf, beq_eq]
    · have : k ≠ t := fun e => by rw [e, memN_iff.2 h] at hm; cases hm
      simp only [this, decide_false, cond_false]
      exact dedH_seen es _ t (List.mem_cons_of_mem _ h)
    · exact dedH_seen es _ t h
theorem dedH_get : ∀ (es : List (Nat × Option Blk)) (seen : List Nat) (t : Nat), t ∉ seen → blkOf (dedH seen es) t = blkOf es t
  | [], _, _, _ => rfl
  | (k, none) :: es, seen, t, h => by
    unfold dedH
    cases hm : memN seen k <;> simp only [cond_true, cond_false, blkOf, beq_eq]
    · by_cases c : k = t
      · simp only [c, decide_true, cond_true]; exact dedH_seen es _ t (by simp)
      · simp only [c, decide_false, cond_false]
        exact dedH_get es (k :: seen) t (by simp; exact ⟨fun e => c e.symm, h⟩)
    · have : k ≠ t := fun e => h (e ▸ memN_iff.1 hm)
      simp only [this, decide_false, cond_false]
      exact dedH_get es seen t h
  | (k, some x) :: es, seen, t, h => by
    unfold dedH
    cases hm : memN seen k <;> simp only [cond_true, cond_false, blkOf, beq_eq]
    · by_cases c : k = t
      · simp [c]
      · simp only [c, decide_false, cond_false]
        exact dedH_get es (k :: seen) t (by simp; exact ⟨fun e => c e.symm, h⟩)
    · have : k ≠ t := fun e => h (e ▸ memN_iff.1 hm)
      simp only [this, decide_false, cond_false]
      exact dedH_get es seen t h
/-- What was added to a frame behind the first L entries is made short. -/
def cmpF (L : Nat) (fr : Fr) : Fr := dedF [] (fr.take (fr.length - L)) ++ fr.drop (fr.length - L)
theorem look_app : ∀ (a b : Fr) (t : Nat), look (a ++ b) t = if t ∈ a.map (·.1) then look a t else look b t
  | [], b, t => by simp
  | (k, x) :: a, b, t => by
    rw [List.cons_append, look_cons, look_cons, look_app a b t]
    by_cases c : k = t
    · subst c; simp
    · have : t ≠ k := fun e => c e.symm
      simp only [List.map_cons, List.mem_cons, this, false_or, if_neg c]
theorem dedF_mem : ∀ (fr : Fr) (seen : List Nat) (t : Nat), t ∉ seen → (t ∈ (dedF seen fr).map (·.1) ↔ t ∈ fr.map (·.1))
  | [], _, _, _ => Iff.rfl
  | (k, x) :: fr, seen, t, h => by
    unfold dedF
    cases hm : memN seen k <;> simp only [cond_true, cond_false]
    · by_cases c : t = k
      · simp [c]
      · have := dedF_mem fr (k :: seen) t (by simp; exact ⟨c, h⟩)
        simp only [List.map_cons, List.mem_cons, c, false_or]
        exact this
    · have c : t ≠ k := fun e => h (e ▸ memN_iff.1 hm)
      simp only [List.map_cons, List.mem_cons, c, false_or]
      exact dedF_mem fr seen t h
theorem cmpF_look (L : Nat) (fr : Fr) (t : Nat) : look (cmpF L fr) t = look fr t := by
  unfold cmpF
  conv => rhs; rw [← List.take_append_drop (fr.length - L) fr]
  rw [look_app, look_app]
  have h1 := dedF_mem (fr.take (fr.length - L)) [] t (by simp)
  have h2 := dedF_look (fr.take (fr.length - L)) [] t (by simp)
  by_cases c : t ∈ (fr.take (fr.length - L)).map (·.1)
  · rw [if_pos (h1.2 c), if_pos c, h2]
  · rw [if_neg (fun e => c (h1.1 e)), if_neg c]
def cmpH (H : Hp) : Hp := ⟨H.next, dedH [] H.es⟩
theorem Wk.cmp (L : Nat) : Wk n0 fr H (cmpF L fr) (cmpH H) := Wk.same (cmpF_look L fr) rfl fun id => dedH_get H.es [] id (by simp)
end
end Go.Proofs.YtndcbifphloipaaGreat.E

namespace Go.Proofs.YtndcbifphloipaaGreat.E
open Go
set_option linter.unusedVariables false
set_option linter.unusedSimpArgs false

def runOps (P : Program) (R : RunF) (all : Array Oper) : List Oper → Fr → Hp → Option (Fr × Hp)
  | [], fr, H => some (fr, H)
  | o :: rest, fr, H => match guardOf all fr o.guard with
    | some true => match runOp P R o.op fr H with
      | some (x, H') => runOps P R all rest (put fr o.dst x) H'
      | none => none
    | some false => runOps P R all rest (put fr o.dst skipV) H
    | none => none
def accB (all : Array Oper) (k : Nat) (acc : Acc) (t u : List Nat) : Option Acc :=
  match t, u with
  | [], [] => some acc
  | t, u => bif okAcc all k t u acc then some ((k, t, u) :: acc) else none
def runDr (P : Program) (RT RP : RunF) (all : Array Oper) : Nat → Acc → List Oper → Fr → Hp → Option (Fr × Hp)
  | _, _, [], fr, H => some (fr, H)
  | k, acc, o :: rest, fr, H => match guardOf all fr o.guard with
    | some true => match runOp P (bif Nat.ble (pfxGo all all.size) k then RT else RP) o.op fr H with
      | some (x, H') => match accB all k acc (touch o.op fr) (wrote o.op fr H H') with
        | some acc => runDr P RT RP all (k + 1) acc rest (put fr o.dst x) H'
        | none => none
      | none => none
    | some false => runDr P RT RP all (k + 1) acc rest (put fr o.dst skipV) H
    | none => none

abbrev RunW := Fr → Hp → Option (Exit × Fr × Hp)
def normR : Option (Fr × Hp) → Option (Exit × Fr × Hp)
  | some (fr, H) => some (.normal, fr, H)
  | none => none
def isCall : Op → Bool
  | .call c => match c.callee with
    | .value _ => true
    | _ => false
  | _ => false
/-- Whether a region that draws its order holds a call that only computes. -/
def callsIn (ops : Array Oper) : Bool := (ops.toList.take (pfxGo ops ops.size)).any fun o => isCall o.op
def headC : Code → Bool
  | .region _ ops true => callsIn ops
  | .seq a _ => headC a
  | .block _ b => headC b
  | .scope b => headC b
  | .loop b => headC b
  | _ => false
/-- Ahead of such a region all is frozen that can be. -/
def prep (fz : Bool) (n0 : Nat) (h : Bool) (fr : Fr) (H : Hp) : Fr × Hp := bif fz && h then fzAll n0 fr H else (fr, H)
def iter (body : RunW) (pre : Fr → Hp → Fr × Hp) : Nat → RunW
  | 0, _, _ => none
  | n + 1, fr, H => match body fr H with
    | some (.normal, fr', H') => match pre fr' H' with
      | (fr2, H2) => iter body pre n fr2 H2
    | r => r
def blockR (id : Nat) : Option (Exit × Fr × Hp) → Option (Exit × Fr × Hp)
  | some (.exit i, fr, H) => bif Nat.beq i id then some (.normal, fr, H) else some (.exit i, fr, H)
  | r => r
def condR (x : AV) (a b : Option (Exit × Fr × Hp)) : Option (Exit × Fr × Hp) := match x with
  | .val (.bool t) => bif t then a else b
  | _ => none
noncomputable def runC1 (P : Program) (RT RP : RunF) (fz : Bool) (n0 fuel : Nat) (sc : Code → Nat → RunW) (c : Code) : RunW :=
  @Code.rec (fun _ => RunW) (fun fr H => some (.normal, fr, H)) (fun _ ops d fr H => normR (bif d then runDr P RT RP ops 0 [] ops.toList fr H else runOps P RT ops ops.toList fr H))
    (fun _ b ia ib fr H => match ia fr H with
      | some (.normal, fr1, H1) => match prep fz n0 (headC b) fr1 H1 with
        | (fr2, H2) => ib fr2 H2
      | r => r) (fun x _ _ ia ib fr H => condR (ev fr x) (ia fr H) (ib fr H))
    (fun id _ ib fr H => blockR id (ib fr H)) (fun b ib fr H => match prep fz n0 (headC b) fr H with
      | (fr1, H1) => iter ib (fun fr' H' => prep fz n0 (headC b) (cmpF fr1.length fr') (cmpH H')) fuel fr1 H1) (fun _ _ _ _ _ _ _ _ => none) (fun id fr H => some (.exit id, fr, H))
    (fun b ib fr H => match ib fr H with
      | some (.goto l, fr1, H1) => sc b l fr1 H1
      | r => r)
    (fun _ fr H => some (.normal, fr, H)) (fun l fr H => some (.goto l, fr, H)) (fun fr H => some (.ret, fr, H)) (fun _ _ _ => none) c
def noGo : Option (Exit × Fr × Hp) → Option (Exit × Fr × Hp)
  | some (.goto _, _, _) => none
  | r => r
noncomputable def runW (P : Program) (RT RP : RunF) (fz : Bool) (n0 fuel : Nat) : Nat → Code → RunW
  | 0, c => runC1 P RT RP fz n0 fuel (fun _ _ _ _ => none) c
  | e + 1, c => runC1 P RT RP fz n0 fuel (fun b l fr H => match findLabel b l with
    | some rest => noGo (runW P RT RP fz n0 fuel e rest fr H)
    | none => none) c
def pureR (R : RunF) : RunF := fun g args H => bif freeL args then (match R g args ⟨0, []⟩ with
  | some (x, _) => bif x.free then some (x, H) else none
  | none => none) else none
/-- A call ahead in a region that draws its order. -/
def headR (R : RunF) : RunF := fun g args H => bif freeL args then (match R g args ⟨0, []⟩ with
  | some (x, H1) => bif x.free then some (x, H) else bif bdN H1.next 5 x && bdE H1.next H1.es then some (shA H.next x, ⟨Nat.add H.next H1.next, shE H.next H1.es ++ H.es⟩) else none
  | none => none) else none
def cv1 : AV → Option FV
  | .val v => some (.val v)
  | .sl sz n f => some (.sl sz n f)
  | _ => none
def thaw1 (H : Hp) (x : AV) : Option AV := match x with
  | .hsl id sz off len cap ex => match H.get id with
    | some b => bif Nat.beq b.sz sz && Nat.ble (off + len) b.rows.length then (match cvRows cv1 ((b.rows.drop off).take len) with
      | some rows => some (.sl sz len fun i => rows.getD i [])
      | none => none) else none
    | none => none
  | x => bif freeN 5 x then some x else none
def thawL (H : Hp) : List AV → Option (List AV)
  | [] => some []
  | x :: l => match thaw1 H x, thawL H l with
    | some y, some m => some (y :: m)
    | _, _ => none
/-- As headR; blocks of the caller's that are only read may be handed on. -/
def headT (R : RunF) : RunF := fun g args H => bif freeL args then headR R g args H else (match thawL H args with
  | some args' => bif freeL args' then (match R g args' ⟨0, []⟩ with
    | some (x, _) => bif x.free && plainN 5 x then some (x, H) else none
    | none => none) else none
  | none => none)
def callR (nofz : FuncId → Bool) (R : RunF) : RunF := fun g args H => bif !nofz g && freeL args then pureR R g args H else R g args H
def finR (P : Program) (fz : Bool) (n0 : Nat) (rs : List ResultVar) : Option (Exit × Fr × Hp) → Option (AV × Hp)
  | some (.normal, fr, H) => match evRes P fr H rs with
    | some l => bif fz then (match fzAll n0 [(0, tupOf l)] H with | (fr1, H1) => some (look fr1 0, cmpH H1)) else some (tupOf l, cmpH H)
    | none => none
  | some (.ret, fr, H) => match evRes P fr H rs with
    | some l => bif fz then (match fzAll n0 [(0, tupOf l)] H with | (fr1, H1) => some (look fr1 0, cmpH H1)) else some (tupOf l, cmpH H)
    | none => none
  | _ => none
/-- A call, run outright: 'nofz' are the functions in which nothing is frozen. -/
noncomputable def runF (P : Program) (nofz : FuncId → Bool) (fuel : Nat) : Nat → RunF
  | 0 => fun _ _ _ => none
  | d + 1 => fun g args H => match P.funcs[g]? with
    | some fn => bif okFn fn && Nat.ble args.length fn.ntmps then
        finR P (!nofz g) H.next fn.results.toList (runW P (callR nofz (runF P nofz fuel d)) (headT (runF P nofz fuel d)) (!nofz g) H.next fuel 3 (bodyOf fn) (argFr 0 args) H)
      else none
    | none => none

section
variable {P : Program} {n0 : Nat} {fr fr1 : Fr} {H H' H1 : Hp} {K : AV → Hp → Prop} {Q : Exit → Fr → Hp → Prop}
theorem runOps_sound {R : RunF} (hR : ∀ g args H x H', R g args H = some (x, H') → ∀ K : AV → Hp → Prop, K x H' → ACalls P g args H K) {all : Array Oper} :
    ∀ (l : List Oper) (fr : Fr) (H : Hp) (fr1 : Fr) (H1 : Hp), runOps P R all l fr H = some (fr1, H1) → Q .normal fr1 H1 → evOps P (ACalls P) all Q l fr H
  | [], fr, H, fr1, H1, h, hq => by cases h; exact hq
  | o :: l, fr, H, fr1, H1, h, hq => by
    unfold runOps at h
    simp only [evOps, onG_eq, force_eq]
    split at h
    · rename_i hg
      rw [hg]
      split at h
      case h_2 => cases h
      rename_i x H' hx
      exact runOp_sound hR hx (runOps_sound hR l _ _ _ _ h hq)
    · rename_i hg
      rw [hg]
      exact runOps_sound hR l _ _ _ _ h hq
    · cases h
theorem accB_dyn {ops : Array Oper} {k : Nat} {acc acc' : Acc} {t u : List Nat} {R : Acc → Prop} (h : accB ops k acc t u = some acc') (hr : R acc') : dyn ops k acc t u R := by
  have key : ∀ {t u : List Nat}, (bif okAcc ops k t u acc then some ((k, t, u) :: acc) else none) = some acc' → (bif okAcc ops k t u acc then R ((k, t, u) :: acc) else False) := fun {t u} h => by
    obtain ⟨hc, h⟩ := bif_some' h
    cases h
    rw [hc]; exact hr
  cases t with
  | nil => cases u with
    | nil => cases h; exact hr
    | cons b l => exact key h
  | cons a s => exact key h
theorem runDr_sound {RT RP : RunF} (hT : ∀ g args H x H', RT g args H = some (x, H') → ∀ K : AV → Hp → Prop, K x H' → ACalls P g args H K) (hP : ∀ g args H x H', RP g args H = some (x, H') → ∀ K : AV → Hp → Prop, K x H' → HCall P g args H K) {all : Array Oper} :
    ∀ (l : List Oper) (k : Nat) (acc : Acc) (fr : Fr) (H : Hp) (fr1 : Fr) (H1 : Hp), runDr P RT RP all k acc l fr H = some (fr1, H1) → Q .normal fr1 H1 → evDr P all Q k acc l fr H
  | [], k, acc, fr, H, fr1, H1, h, hq => by cases h; exact hq
  | o :: l, k, acc, fr, H, fr1, H1, h, hq => by
    unfold runDr at h
    simp only [evDr, onG_eq, force_eq]
    split at h
    · rename_i hg
      rw [hg]
      split at h
      case h_2 => cases h
      rename_i x H' hx
      split at h
      case h_2 => cases h
      rename_i acc' ha
      have hrec := runDr_sound hT hP l (k + 1) acc' _ _ _ _ h hq
      have hR : ∀ g args H x H', (bif Nat.ble (pfxGo all all.size) k then RT else RP) g args H = some (x, H') → ∀ K : AV → Hp → Prop, K x H' → tailC P all k g args H K := fun g args H x H' h K hk => by
        unfold tailC
        cases hb : Nat.ble (pfxGo all all.size) k <;> rw [hb] at h
        · exact hP _ _ _ _ _ h K hk
        · exact hT _ _ _ _ _ h K hk
      exact runOp_sound hR hx (accB_dyn ha hrec)
    · rename_i hg
      rw [hg]
      exact runDr_sound hT hP l (k + 1) acc _ _ _ _ h hq
    · cases h
theorem Wk.prp {fz h : Bool} {k : Nat} : Wk n0 fr H (prep fz k h fr H).1 (prep fz k h fr H).2 := by
  unfold prep
  cases fz && h
  · exact Wk.refl _ _ _
  · exact Wk.fzA _
theorem iter_sound {body : RunW} {pre : Fr → Hp → Fr × Hp} {c : Code} (hpre : ∀ fr H, Wk n0 fr H (pre fr H).1 (pre fr H).2)
    (hb : ∀ (fr : Fr) (H : Hp) (e : Exit) (fr1 : Fr) (H1 : Hp), body fr H = some (e, fr1, H1) → ∀ Q : Exit → Fr → Hp → Prop, Q e fr1 H1 → evWp P n0 c Q fr H)
    (n : Nat) {fr0 : Fr} {H0 : Hp} (hw : Wk n0 fr0 H0 fr H) {e : Exit} (h : iter body pre n fr H = some (e, fr1, H1)) (hq : Q e fr1 H1) : LoopC P n0 c (evWp P n0 c) Q fr0 H0 := by
  refine ⟨⟨fun m fr H => ∃ e fr1 H1, iter body pre m fr H = some (e, fr1, H1) ∧ Q e fr1 H1, ⟨n, fr, H, hw, e, fr1, H1, h, hq⟩, ?_⟩⟩
  rintro m fr H ⟨e, fr1, H1, hm, hq⟩
  cases m with
  | zero => cases hm
  | succ m =>
    unfold iter at hm
    split at hm
    · rename_i fr' H' hbd
      exact hb _ _ _ _ _ hbd _ ⟨m, _, _, Nat.lt_succ_self m, hpre fr' H', e, fr1, H1, hm, hq⟩
    · rename_i hne
      refine hb _ _ _ _ _ hm _ ?_
      cases e with
      | normal => exact (hne _ _ hm).elim
      | _ => exact hq
theorem runC1_sound {RT RP : RunF} (hT : ∀ g args H x H', RT g args H = some (x, H') → ∀ K : AV → Hp → Prop, K x H' → ACalls P g args H K) (hP : ∀ g args H x H', RP g args H = some (x, H') → ∀ K : AV → Hp → Prop, K x H' → HCall P g args H K)
    {fz : Bool} {k fuel : Nat} {sc : Code → Nat → RunW} (hsc : ∀ b l fr H e fr1 H1, sc b l fr H = some (e, fr1, H1) → ∀ Q : Exit → Fr → Hp → Prop, Q e fr1 H1 → GotoC P n0 b Q l fr H) (c : Code) :
    ∀ (fr : Fr) (H : Hp) (e : Exit) (fr1 : Fr) (H1 : Hp), runC1 P RT RP fz k fuel sc c fr H = some (e, fr1, H1) → ∀ Q : Exit → Fr → Hp → Prop, Q e fr1 H1 → evWp P n0 c Q fr H := by
  induction c with
  | skip => intro fr H e fr1 H1 h Q hq; cases h; exact hq
  | region id ops d =>
    intro fr H e fr1 H1 h Q hq
    replace h : normR (bif d then runDr P RT RP ops 0 [] ops.toList fr H else runOps P RT ops ops.toList fr H) = some (e, fr1, H1) := h
    have hn : ∀ {z : Option (Fr × Hp)}, normR z = some (e, fr1, H1) → z = some (fr1, H1) ∧ e = .normal := fun {z} h => by cases z <;> cases h; exact ⟨rfl, rfl⟩
    obtain ⟨h1, rfl⟩ := hn h
    cases d
    · exact runOps_sound hT _ _ _ _ _ h1 hq
    · exact runDr_sound hT hP _ _ _ _ _ _ _ h1 hq
  | seq a b iha ihb =>
    intro fr H e fr1 H1 h Q hq
    replace h : (match runC1 P RT RP fz k fuel sc a fr H with
      | some (.normal, fr1, H1) => match prep fz k (headC b) fr1 H1 with
        | (fr2, H2) => runC1 P RT RP fz k fuel sc b fr2 H2
      | r => r) = some (e, fr1, H1) := h
    split at h
    · rename_i fr2 H2 ha
      refine iha _ _ _ _ _ ha (seqK n0 (evWp P n0 b) Q) ⟨_, _, Wk.prp, ihb _ _ _ _ _ h Q hq⟩
    · rename_i hne
      refine iha _ _ _ _ _ h (seqK n0 (evWp P n0 b) Q) ?_
      cases e with
      | normal => exact (hne _ _ h).elim
      | _ => exact hq
  | cond x a b iha ihb =>
    intro fr H e fr1 H1 h Q hq
    replace h : condR (ev fr x) (runC1 P RT RP fz k fuel sc a fr H) (runC1 P RT RP fz k fuel sc b fr H) = some (e, fr1, H1) := h
    show condW (ev fr x) (evWp P n0 a Q fr H) (evWp P n0 b Q fr H)
    unfold condR at h; unfold condW
    split at h
    case h_2 => cases h
    rename_i t ht
    try simp only [ht]
    cases t
    · exact ihb _ _ _ _ _ h Q hq
    · exact iha _ _ _ _ _ h Q hq
  | block id b ih =>
    intro fr H e fr1 H1 h Q hq
    replace h : blockR id (runC1 P RT RP fz k fuel sc b fr H) = some (e, fr1, H1) := h
    unfold blockR at h
    split at h
    · rename_i i fr2 H2 hb
      refine ih _ _ _ _ _ hb (blockK id Q) ?_
      show (bif Nat.beq i id then Q .normal fr2 H2 else Q (.exit i) fr2 H2)
      cases hi : Nat.beq i id <;> rw [hi] at h <;> cases h <;> exact hq
    · rename_i hne
      refine ih _ _ _ _ _ h (blockK id Q) ?_
      cases e with
      | exit i => exact (hne _ _ _ h).elim
      | _ => exact hq
  | loop b ih =>
    intro fr H e fr1 H1 h Q hq
    replace h : iter (runC1 P RT RP fz k fuel sc b) (fun fr' H' => prep fz k (headC b) (cmpF (prep fz k (headC b) fr H).1.length fr') (cmpH H')) fuel (prep fz k (headC b) fr H).1 (prep fz k (headC b) fr H).2 = some (e, fr1, H1) := h
    exact iter_sound (fun fr' H' => (Wk.cmp _).trans Wk.prp) (fun fr H e fr1 H1 h Q hq => ih fr H e fr1 H1 h Q hq) fuel Wk.prp h hq
  | rangeFunc => intro fr H e fr1 H1 h; cases h
  | exit id => intro fr H e fr1 H1 h Q hq; cases h; exact hq
  | scope b ih =>
    intro fr H e fr1 H1 h Q hq
    replace h : (match runC1 P RT RP fz k fuel sc b fr H with
      | some (.goto l, fr1, H1) => sc b l fr1 H1
      | r => r) = some (e, fr1, H1) := h
    split at h
    · rename_i l fr2 H2 hb
      exact ih _ _ _ _ _ hb (scopeK (GotoC P n0 b Q) Q) (hsc _ _ _ _ _ _ _ h Q hq)
    · rename_i hne
      refine ih _ _ _ _ _ h (scopeK (GotoC P n0 b Q) Q) ?_
      cases e with
      | goto l => exact (hne _ _ _ h).elim
      | _ => exact hq
  | label l => intro fr H e fr1 H1 h Q hq; cases h; exact hq
  | goto l => intro fr H e fr1 H1 h Q hq; cases h; exact hq
  | ret => intro fr H e fr1 H1 h Q hq; cases h; exact hq
  | refuse => intro fr H e fr1 H1 h; cases h
theorem runW_sound {RT RP : RunF} (hT : ∀ g args H x H', RT g args H = some (x, H') → ∀ K : AV → Hp → Prop, K x H' → ACalls P g args H K) (hP : ∀ g args H x H', RP g args H = some (x, H') → ∀ K : AV → Hp → Prop, K x H' → HCall P g args H K)
    {fz : Bool} {k fuel : Nat} : ∀ (d : Nat) (c : Code) (fr : Fr) (H : Hp) (e : Exit) (fr1 : Fr) (H1 : Hp), runW P RT RP fz k fuel d c fr H = some (e, fr1, H1) → ∀ Q : Exit → Fr → Hp → Prop, Q e fr1 H1 → evWp P n0 c Q fr H
  | 0, c, fr, H, e, fr1, H1, h, Q, hq => runC1_sound hT hP (fun b l fr H e fr1 H1 h => by cases h) c fr H e fr1 H1 h Q hq
  | d + 1, c, fr, H, e, fr1, H1, h, Q, hq => by
    refine runC1_sound hT hP (fun b l fr H e fr1 H1 h Q hq => ?_) c fr H e fr1 H1 h Q hq
    split at h
    case h_2 => cases h
    rename_i rest hf
    have hn : ∀ {z : Option (Exit × Fr × Hp)}, noGo z = some (e, fr1, H1) → z = some (e, fr1, H1) ∧ ∀ l, e ≠ .goto l := fun {z} h => by
      unfold noGo at h
      split at h
      · cases h
      · rename_i hne
        exact ⟨h, fun l he => by subst he; exact hne _ _ _ h⟩
    obtain ⟨h1, h2⟩ := hn h
    refine goto_go hf (runW_sound hT hP d rest fr H e fr1 H1 h1 _ ?_)
    cases e with
    | goto l => exact (h2 l rfl).elim
    | _ => exact hq
theorem finR_sound {fz : Bool} {k : Nat} {rs : List ResultVar} {e : Exit} {x : AV} (h : finR P fz k rs (some (e, fr, H)) = some (x, H1)) (hk : K x H1) : retQ P n0 rs K e fr H := by
  have key : ∀ {z : Option (AV × Hp)}, z = some (x, H1) → (match evRes P fr H rs with
    | some l => bif fz then (match fzAll k [(0, tupOf l)] H with | (fr1, H1) => some (look fr1 0, cmpH H1)) else some (tupOf l, cmpH H)
    | none => none) = z → (match evRes P fr H rs with
    | some l => forceL l fun l => force (tupOf l) fun x => ∃ x1 H1, Wk n0 [(0, x)] H [(0, x1)] H1 ∧ K x1 H1
    | none => False) := fun {z} hz he => by
    rw [hz] at he
    split at he
    case h_2 => cases he
    rename_i l hl
    simp only [hl, forceL_eq, force_eq]
    cases fz
    · cases he
      exact ⟨_, _, Wk.same (H1 := cmpH H) (fun _ => rfl) rfl (fun id => dedH_get H.es [] id (by simp)), hk⟩
    · simp only [cond_true] at he
      have hw : Wk n0 [(0, tupOf l)] H (fzAll k [(0, tupOf l)] H).1 (fzAll k [(0, tupOf l)] H).2 := Wk.fzA k
      generalize hz : fzAll k [(0, tupOf l)] H = z at he hw
      obtain ⟨fr1, H1'⟩ := z
      cases he
      exact ⟨_, _, (hw.trans (Wk.sub (fr1 := [(0, look fr1 0)]) ⟨rfl, trivial⟩)).trans (Wk.same (H1 := cmpH H1') (fun _ => rfl) rfl (fun id => dedH_get H1'.es [] id (by simp))), hk⟩
  cases e with
  | normal => exact key rfl h
  | ret => exact key rfl h
  | _ => cases h
theorem pureR_sound {R : RunF} (hR : ∀ g args H x H', R g args H = some (x, H') → ∀ K : AV → Hp → Prop, K x H' → ACalls P g args H K) {g : FuncId} {args : List AV} {x : AV} (h : pureR R g args H = some (x, H')) (hk : K x H') : PCall P g args H K := by
  unfold pureR at h
  obtain ⟨hf, h⟩ := bif_some' h
  split at h
  case h_2 => cases h
  rename_i y H2 hy
  obtain ⟨hx, h⟩ := bif_some' h
  cases h
  exact ⟨_, ⟨hR _ _ _ _ _ hy _ rfl, hf, hx⟩, hk⟩
theorem headR_sound {R : RunF} (hR : ∀ g args H x H', R g args H = some (x, H') → ∀ K : AV → Hp → Prop, K x H' → ACalls P g args H K) {g : FuncId} {args : List AV} {x : AV} (h : headR R g args H = some (x, H')) (hk : K x H') : HCall P g args H K := by
  unfold headR at h
  obtain ⟨hf, h⟩ := bif_some' h
  split at h
  case h_2 => cases h
  rename_i y H2 hy
  cases hx : y.free <;> rw [hx] at h <;> simp only [cond_true, cond_false] at h
  · obtain ⟨hb, h⟩ := bif_some' h
    cases h
    exact .neu (x := y) (n := H2.next) (es := H2.es) ⟨hR _ _ _ _ _ hy _ ⟨rfl, rfl⟩, hf, hb⟩ hk
  · cases h
    exact .pure ⟨hR _ _ _ _ _ hy _ rfl, hf, hx⟩ hk
theorem thaw1_sound {x y : AV} (h : thaw1 H x = some y) : Thaw H x y := by
  have free : (bif freeN 5 x then some x else none) = some y → Thaw H x y := fun h => by
    obtain ⟨h1, h2⟩ := bif_some' h
    cases h2
    exact .free _ h1
  unfold thaw1 at h
  split at h
  · rename_i id sz off len cap ex
    split at h
    case h_2 => cases h
    rename_i b hb
    obtain ⟨hc, h⟩ := bif_some' h
    simp only [Bool.and_eq_true] at hc
    split at h
    case h_2 => cases h
    rename_i rows hr
    cases h
    have hle := Nat.le_of_ble_eq_true hc.2
    obtain ⟨el, hrow⟩ := cvRows_get hr
    have hlen : rows.length = len := by rw [el]; simp; omega
    refine .sl _ _ _ _ _ _ b _ hb (Nat.eq_of_beq_eq_true hc.1) hle fun i hi => ?_
    obtain ⟨r, h1, h2⟩ := hrow i (rows.getD i []) (by simp [List.getD_eq_getElem?_getD, show i < rows.length by omega])
    rw [List.getElem?_take, if_pos hi, List.getElem?_drop] at h1
    rw [h1]
    congr 1
    have : ∀ {l : List AV} {m : List FV}, cvRow cv1 l = some m → l = m.map FV.up := fun {l} => by
      induction l with
      | nil => intro m h; cases h; rfl
      | cons a l ih =>
        intro m h
        unfold cvRow at h
        split at h
        case h_2 => cases h
        rename_i y m' q1 q2
        cases h
        rw [List.map_cons, ← ih q2]
        congr 1
        cases a <;> cases q1 <;> rfl
    exact this h2
  · exact free h
theorem thawL_sound : ∀ {l m : List AV}, thawL H l = some m → PW (Thaw H) l m
  | [], m, h => by cases h; exact .nil
  | x :: l, m, h => by
    unfold thawL at h
    split at h
    case h_2 => cases h
    rename_i y m' h1 h2
    cases h
    exact .cons (thaw1_sound h1) (thawL_sound h2)
theorem headT_sound {R : RunF} (hR : ∀ g args H x H', R g args H = some (x, H') → ∀ K : AV → Hp → Prop, K x H' → ACalls P g args H K) {g : FuncId} {args : List AV} {x : AV} (h : headT R g args H = some (x, H')) (hk : K x H') : HCall P g args H K := by
  unfold headT at h
  cases hf : freeL args <;> rw [hf] at h <;> simp only [cond_true, cond_false] at h
  · split at h
    case h_2 => cases h
    rename_i args' ha
    obtain ⟨hfa, h⟩ := bif_some' h
    split at h
    case h_2 => cases h
    rename_i y H2 hy
    obtain ⟨hx, h⟩ := bif_some' h
    simp only [Bool.and_eq_true] at hx
    cases h
    exact .thaw ⟨hR _ _ _ _ _ hy _ rfl, hfa, hx.1⟩ hx.2 (thawL_sound ha) hk
  · exact headR_sound hR h hk
theorem runF_sound (hm : P.follows .mixedOrders = true) {nofz : FuncId → Bool} {fuel : Nat} : ∀ (d : Nat) (g : FuncId) (args : List AV) (H : Hp) (x : AV) (H' : Hp), runF P nofz fuel d g args H = some (x, H') → ∀ K : AV → Hp → Prop, K x H' → ACalls P g args H K
  | 0, g, args, H, x, H', h, K, hk => by cases h
  | d + 1, g, args, H, x, H', h, K, hk => by
    have ih := runF_sound hm (nofz := nofz) (fuel := fuel) d
    unfold runF at h
    split at h
    case h_2 => cases h
    rename_i fn hf
    obtain ⟨hc, h⟩ := bif_some' h
    simp only [Bool.and_eq_true] at hc
    refine ACalls.ev fn hm hf hc.1 hc.2 ?_
    generalize hz : runW P (callR nofz (runF P nofz fuel d)) (headT (runF P nofz fuel d)) (!nofz g) H.next fuel 3 (bodyOf fn) (argFr 0 args) H = z at h
    match z, hz, h with
    | none, _, h => cases h
    | some (e, fr1, H1), hz, h =>
      refine runW_sound (n0 := H.next) (fun g args H x H' h K hk => ?_) (fun g args H x H' h K hk => headT_sound ih h hk) 3 (bodyOf fn) _ _ e fr1 H1 hz _ (finR_sound h hk)
      unfold callR at h
      cases hb : (!nofz g && freeL args) <;> rw [hb] at h
      · exact ih _ _ _ _ _ h K hk
      · exact (pureR_sound ih h hk).acalls
def isTrue : Option (AV × Hp) → Bool
  | some (.val (.bool b), _) => b
  | _ => false
/-- A statement without arguments, run outright. -/
theorem pure_run (hm : P.follows .mixedOrders = true) (nofz : FuncId → Bool) (fuel d : Nat) {g : FuncId} (h : isTrue (runF P nofz fuel d g [] ⟨0, []⟩) = true) : Pure P g [] (.val (.bool true)) := by
  refine ⟨?_, rfl, rfl⟩
  generalize hz : runF P nofz fuel d g [] ⟨0, []⟩ = z at h
  match z, hz, h with
  | some (.val (.bool true), H'), hz, _ => exact runF_sound hm d _ _ _ _ _ hz _ rfl
end
end Go.Proofs.YtndcbifphloipaaGreat.E

namespace Go.Proofs.YtndcbifphloipaaGreat.E
open Go
set_option linter.unusedVariables false
set_option linter.unusedSimpArgs false

/-! Runs that take some functions by their contracts. -/
inductive FEq : FV → FV → Prop
  | refl (x : FV) : FEq x x
  | nil (sz : Nat) (f : Nat → List FV) : FEq (.val (.slice none 0 0)) (.sl sz 0 f)
  | sl (sz n : Nat) (f f' : Nat → List FV) (hl : ∀ i, i < n → (f' i).length = (f i).length) (h : ∀ (i j : Nat) (x y : FV), i < n → (f i)[j]? = some x → (f' i)[j]? = some y → FEq x y) : FEq (.sl sz n f) (.sl sz n f')
inductive AEq : AV → AV → Prop
  | refl (x : AV) : AEq x x
  | sl (sz n : Nat) (f f' : Nat → List FV) (h : FEq (.sl sz n f) (.sl sz n f')) : AEq (.sl sz n f) (.sl sz n f')
  | nil (sz : Nat) (f : Nat → List FV) : AEq (.val (.slice none 0 0)) (.sl sz 0 f)
section
variable {P : Program} {n0 : Nat} {fr fr1 : Fr} {H H' H1 : Hp} {K : AV → Hp → Prop} {F : Nat → Prop} {w : World}
theorem FRel.eq {x y : FV} {v : Value} (he : FEq x y) : FRel F w x v → FRel F w y v := by
  intro h
  induction h generalizing y with
  | val v =>
    cases he with
    | refl => exact .val v
    | nil sz f => exact .sl _ _ _ none 0 (fun _ _ => undef) 0 0 (by unfold maxLen; omega) (fun h => absurd h (by omega)) (fun i hi => absurd hi (by omega)) (fun i j hi => absurd hi (by omega)) (fun i j x hi => absurd hi (by omega))
  | sl sz n f A c u b off hc hA hl hu hr ih =>
    cases he with
    | refl => exact .sl sz n f A c u b off hc hA hl hu hr
    | sl _ _ _ f' hl' h' =>
      refine .sl sz n f' A c u b off hc hA (fun i hi => by rw [hl' i hi]; exact hl i hi) hu (fun i j y hi hy => ?_)
      have hj := (List.getElem?_eq_some_iff.1 hy).1
      have hj2 : j < (f i).length := by rw [← hl' i hi]; exact hj
      have hx : (f i)[j]? = some ((f i)[j]'hj2) := List.getElem?_eq_getElem hj2
      exact ih i j _ hi hx (h' i j _ y hi hx hy)
theorem AR.eq {N : Al} {σ : Sg} {x y : AV} {v : Value} (he : AEq x y) (h : AR N σ F w x v) : AR N σ F w y v := by
  cases he with
  | refl => exact h
  | sl sz n f f' hf => cases h with | sl _ _ _ v h => exact .sl _ _ _ _ (FRel.eq hf h)
  | nil sz f => cases h; exact .sl _ _ _ _ (.sl _ _ _ none 0 (fun _ _ => undef) 0 0 (by unfold maxLen; omega) (fun h => absurd h (by omega)) (fun i hi => absurd hi (by omega)) (fun i j hi => absurd hi (by omega)) (fun i j x hi => absurd hi (by omega)))
theorem Pure.eq {g : FuncId} {args args' : List AV} {r : AV} (h : Pure P g args' r) (he : PW AEq args args') (fa : freeL args = true) : Pure P g args r :=
  ⟨⟨h.run.ok, fun σ F w vs hw hr => h.run.run σ F w vs hw ⟨by rw [he.1]; exact hr.1, fun i y hy => by
    obtain ⟨x, hx, hxy⟩ := he.get' hy
    exact AR.eq hxy (hr.2 i x hx)⟩⟩, fa, h.fr⟩
def intF : FV → Option Int
  | .val (.int .i64 x) => some x
  | _ => none
def intRow : List FV → Option Int
  | [x] => intF x
  | _ => none
def mapO {α β : Type} (f : α → Option β) : List α → Option (List β)
  | [] => some []
  | x :: l => match f x, mapO f l with
    | some y, some m => some (y :: m)
    | _, _ => none
theorem mapO_get {α β : Type} {f : α → Option β} : ∀ {l : List α} {m : List β}, mapO f l = some m → m.length = l.length ∧ ∀ (i : Nat) x, l[i]? = some x → ∃ y, m[i]? = some y ∧ f x = some y
  | [], m, h => by cases h; exact ⟨rfl, fun i x h => by simp at h⟩
  | x :: l, m, h => by
    unfold mapO at h
    split at h
    case h_2 => cases h
    rename_i y m' h1 h2
    cases h
    obtain ⟨e, ih⟩ := mapO_get h2
    refine ⟨by simp [e], fun i z hz => ?_⟩
    cases i with
    | zero => simp at hz; subst hz; exact ⟨y, rfl, h1⟩
    | succ i => simpa using ih i z (by simpa using hz)
def intsF (sz n : Nat) (f : Nat → List FV) : Option (List Int) := bif Nat.beq sz 1 then mapO (fun i => intRow (f i)) (List.range n) else none
/-- A slice of numbers, read. -/
def intsOf : AV → Option (List Int)
  | .val (.slice none 0 0) => some []
  | .sl sz n f => intsF sz n f
  | _ => none
theorem intRow_eq {l : List FV} {x : Int} (h : intRow l = some x) : l = [.val (.int .i64 x)] := by
  unfold intRow at h
  split at h
  · unfold intF at h
    split at h
    · cases h; rfl
    · cases h
  · cases h
theorem intsF_eq {sz n : Nat} {f : Nat → List FV} {l : List Int} (h : intsF sz n f = some l) : sz = 1 ∧ n = l.length ∧ ∀ i, i < n → f i = [.val (.int .i64 (l.getD i 0))] := by
  obtain ⟨h1, h2⟩ := bif_some' h
  obtain ⟨e, hg⟩ := mapO_get h2
  refine ⟨Nat.eq_of_beq_eq_true h1, by simpa using e.symm, fun i hi => ?_⟩
  obtain ⟨y, hy, hr⟩ := hg i i (by simp [hi])
  rw [intRow_eq hr, List.getD_eq_getElem?_getD, hy]; rfl
theorem FEq.rows {sz n : Nat} {f f' : Nat → List FV} (h : ∀ i, i < n → f' i = f i) : FEq (.sl sz n f) (.sl sz n f') :=
  .sl _ _ _ _ (fun i hi => by rw [h i hi]) fun i j x y hi hx hy => by rw [h i hi, hx] at hy; cases hy; exact .refl _
theorem intsOf_eq {x : AV} {l : List Int} (h : intsOf x = some l) : AEq x (.sl 1 l.length fun i => [.val (.int .i64 (l.getD i 0))]) := by
  unfold intsOf at h
  split at h
  · cases h; exact .nil _ _
  · obtain ⟨rfl, rfl, h3⟩ := intsF_eq h
    exact .sl _ _ _ _ (.rows fun i hi => (h3 i hi).symm)
  · cases h
def slRow : List FV → Option (List Int)
  | [.sl sz n f] => intsF sz n f
  | [.val (.slice none 0 0)] => some []
  | _ => none
/-- A slice of slices of numbers, read. -/
def intssOf : AV → Option (List (List Int))
  | .sl sz n f => bif Nat.beq sz 1 then mapO (fun i => slRow (f i)) (List.range n) else none
  | _ => none
theorem intssOf_eq {x : AV} {l : List (List Int)} (h : intssOf x = some l) : AEq x (.sl 1 l.length fun i => [.sl 1 (l.getD i []).length fun j => [.val (.int .i64 ((l.getD i []).getD j 0))]]) := by
  unfold intssOf at h
  split at h
  · rename_i sz n f
    obtain ⟨h1, h2⟩ := bif_some' h
    obtain rfl := Nat.eq_of_beq_eq_true h1
    obtain ⟨e, hg⟩ := mapO_get h2
    rw [List.length_range] at e
    subst e
    refine .sl _ _ _ _ (.sl _ _ _ _ (fun i hi => ?_) fun i j y z hi hy hz => ?_)
    · obtain ⟨m, hm, hr⟩ := hg i i (by simp [hi])
      unfold slRow at hr
      split at hr
      · rename_i hfi; rw [hfi]; rfl
      · rename_i hfi; rw [hfi]; rfl
      · cases hr
    · obtain ⟨m, hm, hr⟩ := hg i i (by simp [hi])
      have hgd : l.getD i [] = m := by rw [List.getD_eq_getElem?_getD, hm]; rfl
      unfold slRow at hr
      split at hr
      · rename_i sz k g hfi
        obtain ⟨rfl, rfl, h3⟩ := intsF_eq hr
        rw [hfi] at hy
        cases j with
        | zero =>
          simp only [hgd, List.getElem?_cons_zero, Option.some.injEq] at hy hz
          subst hy hz
          exact .rows fun i hi => (h3 i hi).symm
        | succ j => simp at hy
      · rename_i hfi
        cases hr
        rw [hfi] at hy
        cases j with
        | zero =>
          simp only [hgd, List.getElem?_cons_zero, Option.some.injEq] at hy hz
          subst hy hz
          exact .nil _ _
        | succ j => simp at hy
      · cases hr
  · cases h
abbrev Orc := FuncId → Option (List AV → Option AV)
def OrcOk (P : Program) (orc : Orc) : Prop := ∀ g f args r, orc g = some f → f args = some r → Pure P g args r
def readL (fr : Fr) : Nat → Nat → List AV
  | _, 0 => []
  | k, n + 1 => look fr k :: readL fr (k + 1) n
theorem readL_len (fr : Fr) : ∀ (n k : Nat), (readL fr k n).length = n
  | 0, _ => rfl
  | n + 1, k => by simp [readL, readL_len fr n (k + 1)]
theorem readL_get (fr : Fr) : ∀ (n k i : Nat), i < n → (readL fr k n)[i]? = some (look fr (k + i))
  | 0, _, _, h => by omega
  | n + 1, k, 0, _ => rfl
  | n + 1, k, i + 1, h => by
    have := readL_get fr n (k + 1) i (by omega)
    rw [readL, List.getElem?_cons_succ, this]
    congr 2; omega
/-- A function by its contract; what it reads may be frozen for it. -/
def orcR (orc : Orc) (R : RunF) : RunF := fun g args H => match orc g with
  | none => R g args H
  | some f => match f args with
    | some r => some (r, H)
    | none => match fzAll 0 (argFr 0 args) H with
      | (fr1, H1) => match f (readL fr1 0 args.length) with
        | some r => some (r, H1)
        | none => none
def orcP (orc : Orc) (R : RunF) : RunF := fun g args H => match orc g with
  | none => R g args H
  | some f => match f args with
    | some r => some (r, H)
    | none => none
/-- As runF, some functions by their contracts. -/
noncomputable def runG (P : Program) (orc : Orc) (nofz : FuncId → Bool) (fuel : Nat) : Nat → RunF
  | 0 => fun _ _ _ => none
  | d + 1 => fun g args H => match P.funcs[g]? with
    | some fn => bif okFn fn && Nat.ble args.length fn.ntmps then
        finR P (!nofz g) H.next fn.results.toList (runW P (orcR orc (callR nofz (runG P orc nofz fuel d))) (orcP orc (headT (runG P orc nofz fuel d))) (!nofz g) H.next fuel 3 (bodyOf fn) (argFr 0 args) H)
      else none
    | none => none
theorem wk_calls {g : FuncId} {args args1 : List AV} (hk : Wk H.next (argFr 0 args) H (argFr 0 args1) H1) (hl : args1.length = args.length) (h : ACalls P g args1 H1 K) : ACalls P g args H K := by
  refine ⟨h.ok, fun σ F w vs hw hr => ?_⟩
  obtain ⟨σ', F', hx, hw', hf'⟩ := hk.run σ F w vs (Nat.le_refl _) hw (fun t => by
    rw [look_argFr]
    simp only [Nat.zero_le, if_true, Nat.sub_zero]
    cases hx : args[t]? with
    | none => exact .junk _
    | some x => exact hr.2 t x hx)
  refine (h.run σ' F' w vs hw' ⟨by rw [hl]; exact hr.1, fun i x hx => ?_⟩).mono ?_
  · have := hf' i
    rw [look_argFr] at this
    simpa [hx] using this
  · rintro e w' ⟨v, rfl, x, σ2, F2, H2, hK, hx2, hw2, hr2⟩
    exact ⟨v, rfl, x, σ2, F2, H2, hK, hx.trans (hx2.weak hx.n.2), hw2, hr2⟩
theorem orcR_sound {orc : Orc} (ho : OrcOk P orc) {R : RunF} (hR : ∀ g args H x H', R g args H = some (x, H') → ∀ K : AV → Hp → Prop, K x H' → ACalls P g args H K) :
    ∀ g args H x H', orcR orc R g args H = some (x, H') → ∀ K : AV → Hp → Prop, K x H' → ACalls P g args H K := fun g args H x H' h K hk => by
  unfold orcR at h
  split at h
  · exact hR _ _ _ _ _ h K hk
  · rename_i f hf
    split at h
    · rename_i r hr
      cases h
      exact (ho g f args _ hf hr).call hk
    · have hw : Wk H.next (argFr 0 args) H (fzAll 0 (argFr 0 args) H).1 (fzAll 0 (argFr 0 args) H).2 := Wk.fzA 0
      generalize fzAll 0 (argFr 0 args) H = z at h hw
      obtain ⟨fr1, H1⟩ := z
      simp only at h hw
      split at h
      · rename_i r hr
        cases h
        refine wk_calls (args1 := readL fr1 0 args.length) (hw.trans (Wk.sub ?_)) (readL_len _ _ _) ((ho g f _ _ hf hr).call hk)
        have : ∀ (l : List AV) (n : Nat), (∀ i x, l[i]? = some x → look fr1 (n + i) = x) → subFr fr1 (argFr n l) := fun l => by
          induction l with
          | nil => intro n _; trivial
          | cons a l ih =>
            intro n hl
            exact ⟨hl 0 a rfl, ih (n + 1) fun i x hx => by rw [← hl (i + 1) x (by simpa using hx)]; congr 1; omega⟩
        refine this _ 0 fun i x hx => ?_
        have hi := (List.getElem?_eq_some_iff.1 hx).1
        rw [readL_len] at hi
        rw [readL_get fr1 _ 0 i hi] at hx
        cases hx; rfl
      · cases h
theorem orcP_sound {orc : Orc} (ho : OrcOk P orc) {R : RunF} (hR : ∀ g args H x H', R g args H = some (x, H') → ∀ K : AV → Hp → Prop, K x H' → HCall P g args H K) :
    ∀ g args H x H', orcP orc R g args H = some (x, H') → ∀ K : AV → Hp → Prop, K x H' → HCall P g args H K := fun g args H x H' h K hk => by
  unfold orcP at h
  split at h
  · exact hR _ _ _ _ _ h K hk
  · rename_i f hf
    split at h
    · rename_i r hr
      cases h
      exact .pure (ho g f args _ hf hr) hk
    · cases h
theorem runG_sound (hm : P.follows .mixedOrders = true) {orc : Orc} (ho : OrcOk P orc) {nofz : FuncId → Bool} {fuel : Nat} : ∀ (d : Nat) (g : FuncId) (args : List AV) (H : Hp) (x : AV) (H' : Hp), runG P orc nofz fuel d g args H = some (x, H') → ∀ K : AV → Hp → Prop, K x H' → ACalls P g args H K
  | 0, g, args, H, x, H', h, K, hk => by cases h
  | d + 1, g, args, H, x, H', h, K, hk => by
    have ih := runG_sound hm ho (nofz := nofz) (fuel := fuel) d
    unfold runG at h
    split at h
    case h_2 => cases h
    rename_i fn hf
    obtain ⟨hc, h⟩ := bif_some' h
    simp only [Bool.and_eq_true] at hc
    refine ACalls.ev fn hm hf hc.1 hc.2 ?_
    generalize hz : runW P (orcR orc (callR nofz (runG P orc nofz fuel d))) (orcP orc (headT (runG P orc nofz fuel d))) (!nofz g) H.next fuel 3 (bodyOf fn) (argFr 0 args) H = z at h
    match z, hz, h with
    | none, _, h => cases h
    | some (e, fr1, H1), hz, h =>
      refine runW_sound (n0 := H.next) (orcR_sound ho fun g args H x H' h K hk => ?_) (orcP_sound ho fun g args H x H' h K hk => headT_sound ih h hk) 3 (bodyOf fn) _ _ e fr1 H1 hz _ (finR_sound h hk)
      unfold callR at h
      cases hb : (!nofz g && freeL args) <;> rw [hb] at h
      · exact ih _ _ _ _ _ h K hk
      · exact (pureR_sound ih h hk).acalls
/-- A statement without arguments, run outright, some functions by their contracts. -/
theorem pure_runG (hm : P.follows .mixedOrders = true) {orc : Orc} (ho : OrcOk P orc) (nofz : FuncId → Bool) (fuel d : Nat) {g : FuncId} (h : isTrue (runG P orc nofz fuel d g [] ⟨0, []⟩) = true) : Pure P g [] (.val (.bool true)) := by
  refine ⟨?_, rfl, rfl⟩
  generalize hz : runG P orc nofz fuel d g [] ⟨0, []⟩ = z at h
  match z, hz, h with
  | some (.val (.bool true), H'), hz, _ => exact runG_sound hm ho d _ _ _ _ _ hz _ rfl
end
end Go.Proofs.YtndcbifphloipaaGreat.E
