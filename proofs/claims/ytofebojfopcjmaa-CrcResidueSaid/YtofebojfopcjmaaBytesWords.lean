/- A string made of a row of bytes; the exclusive or of two bytes. No program here. -/
import Derived.Deep.OwnRows
import Derived.Laws.BytesString
import Derived.Lib.ConvBytes
import Derived.WalkKit
namespace Go.Proofs.Ytofebojfopcjmaa
open Go.RowKit
theorem foldl_push (l : List UInt8) : ∀ s : ByteArray, (l.map fun c => (c.toNat : Int)).foldl (fun r n => r.push (UInt8.ofNat n.toNat)) s = ⟨s.data ++ l.toArray⟩ := by
  induction l with
  | nil => intro s; simp
  | cons c l ih =>
    intro s
    simp only [List.map_cons, List.foldl_cons, Int.toNat_natCast, UInt8.ofNat_toNat]
    rw [ih (s.push c)]
    apply ByteArray.ext
    simp [ByteArray.push]
theorem run_string_cells {P : Program} (w : World) (src dst e : TypeId) (g c : Nat) (X : ByteArray)
    (hs : P.underlying src = some (.slice e)) (he : P.underlying e = some (.int .u8)) (hd : P.underlying dst = some .string)
    (h : ∀ i, i < X.size → w.cell? ⟨g, i, none⟩ = some (.int .u8 ((X.data.toList.getD i 0).toNat : Int))) :
    (convert src dst (.slice (some ⟨g, 0, none⟩) X.size c)).run P w = .ok (.string X) w := by
  rw [run_convert_bytes_string w src dst e _ _ _ hs he hd]
  have hl : X.size = ((X.data.toList.map fun c => (c.toNat : Int)).map (Value.int .u8)).length := by simp
  have hc : (loadCells ⟨g, 0, none⟩ X.size).run P w = .ok ((X.data.toList.map fun c => (c.toNat : Int)).map (Value.int .u8)).toArray w := by
    rw [hl]
    apply run_loadCells_list
    intro j v hv
    have hj : j < X.size := by
      have := (List.getElem?_eq_some_iff.1 hv).1
      rw [hl]; exact this
    have hcell := h j hj
    have ha : (⟨g, 0, none⟩ : Addr).add j = ⟨g, j, none⟩ := by unfold Addr.add; by_cases h0 : j = 0 <;> simp [h0]
    rw [ha, hcell]
    rw [← hv]
    have hj' : j < X.data.size := hj
    simp [Array.getElem?_eq_getElem hj']
  rw [run_bytesToString w _ _ _ _ hc, foldl_push]
  have e : (⟨ByteArray.empty.data ++ X.data.toList.toArray⟩ : ByteArray) = X := by apply ByteArray.ext; simp
  rw [e]
theorem run_string_row {P : Program} (w : World) (src dst e : TypeId) (t : TypeId) (g c : Nat) (X : ByteArray)
    (hs : P.underlying src = some (.slice e)) (he : P.underlying e = some (.int .u8)) (hd : P.underlying dst = some .string)
    (h : w.rowIs g t X.size (fun i => .int .u8 ((X.data.toList.getD i 0).toNat : Int))) :
    (convert src dst (.slice (some ⟨g, 0, none⟩) X.size c)).run P w = .ok (.string X) w :=
  run_string_cells w src dst e g c X hs he hd fun _ hi => h.cell hi
/-- A row of bytes that a conversion made: its first cells. -/
def ByteRow (w : World) (g : Nat) (l : List UInt8) : Prop :=
  ∃ (c : Array Value) (t : TypeId), w.heap[g]? = some (.cells c t (c.size, c.size + 1)) ∧ l.length ≤ c.size ∧ ∀ (i : Nat) (x : UInt8), l[i]? = some x → c[i]? = some (.int .u8 (x.toNat : Int))
theorem ByteRow.cell {w : World} {g : Nat} {l : List UInt8} (h : ByteRow w g l) (i : Nat) (x : UInt8) (hx : l[i]? = some x) : w.cell? ⟨g, i, none⟩ = some (.int .u8 (x.toNat : Int)) := by
  obtain ⟨c, t, hg, _, hc⟩ := h
  simp [World.cell?, hg, hc i x hx]
theorem ByteRow.frozen {w : World} {g : Nat} {l : List UInt8} (h : ByteRow w g l) (i : Nat) (hi : i < l.length) : w.frozen? ⟨g, i, none⟩ = false := by
  obtain ⟨c, t, hg, hl, _⟩ := h
  simp [World.frozen?, hg]; omega
theorem ByteRow.lt {w : World} {g : Nat} {l : List UInt8} (h : ByteRow w g l) : g < w.heap.size := by
  obtain ⟨c, t, hg, _⟩ := h
  rcases Nat.lt_or_ge g w.heap.size with h' | h'
  · exact h'
  · rw [Array.getElem?_eq_none h'] at hg; cases hg
theorem ByteRow.set {w : World} {g : Nat} {l : List UInt8} (h : ByteRow w g l) (i : Nat) (x : UInt8) : ByteRow (w.setCell ⟨g, i, none⟩ (.int .u8 (x.toNat : Int))) g (l.set i x) := by
  have hlt := h.lt
  obtain ⟨c, t, hg, hl, hc⟩ := h
  refine ⟨c.setIfInBounds i (.int .u8 (x.toNat : Int)), t, ?_, by simpa using hl, ?_⟩
  · simp [World.setCell, Array.getElem?_modify, hg]
  · intro j y hy
    by_cases hij : i = j
    · subst hij
      have hi : i < l.length := by have := (List.getElem?_eq_some_iff.1 hy).1; simpa using this
      rw [List.getElem?_set_self hi] at hy
      simp at hy; subst hy
      rw [Array.getElem?_setIfInBounds_self_of_lt (by omega)]
    · rw [List.getElem?_set_ne hij] at hy
      rw [Array.getElem?_setIfInBounds_ne hij]
      exact hc j y hy
theorem ByteRow.below {w w' : World} {g : Nat} {l : List UInt8} (h : ByteRow w g l) (hb : Below w.heap.size w w') : ByteRow w' g l := by
  have hlt := h.lt
  obtain ⟨c, t, hg, r⟩ := h
  exact ⟨c, t, (hb.block g hlt).trans hg, r⟩
theorem ByteRow.conv {P : Program} {w : World} {g : Nat} {l : List UInt8} (h : ByteRow w g l) (src dst e : TypeId) (n c : Nat) (hn : n = l.length)
    (hs : P.underlying src = some (.slice e)) (he : P.underlying e = some (.int .u8)) (hd : P.underlying dst = some .string) :
    (convert src dst (.slice (some ⟨g, 0, none⟩) n c)).run P w = .ok (.string ⟨l.toArray⟩) w := by
  subst hn
  exact run_string_cells w src dst e g c ⟨l.toArray⟩ hs he hd fun i hi => by
    have hi' : i < l.length := hi
    rw [h.cell i l[i] (List.getElem?_eq_getElem hi')]
    simp [List.getD, hi']
theorem ByteRow.made (w : World) (e : TypeId) (s : ByteArray) : ByteRow (Lib.bytesWorld w e s) w.heap.size s.data.toList := by
  refine ⟨_, e, Lib.bytesWorld_at_new w e s, ?_, ?_⟩
  · simp [Lib.bytesCells]
  · intro i x hx
    have hi := (List.getElem?_eq_some_iff.1 hx).1
    have hi' : i < s.data.size := by simpa using hi
    simp only [Lib.bytesCells]
    rw [Array.getElem?_append_left (by simpa using hi')]
    rw [Array.getElem?_map]
    rw [Array.getElem?_toList] at hx
    rw [hx]; rfl
theorem below_made (w : World) (e : TypeId) (s : ByteArray) : Below w.heap.size w (Lib.bytesWorld w e s) :=
  ⟨rfl, rfl, rfl, by rw [Lib.bytesWorld_size]; omega, fun k hk => Lib.bytesWorld_at_old w e s k hk⟩
theorem ofInt_u8 (a : UInt8) : BitVec.ofInt 8 (a.toNat : Int) = a.toBitVec := by
  rw [BitVec.ofInt_natCast]; apply BitVec.eq_of_toNat_eq; rw [BitVec.toNat_ofNat]; have := a.toNat_lt; simp [UInt8.toNat_toBitVec]
theorem bits_xor_u8 (a b : UInt8) : Go.bits .xor .u8 (a.toNat : Int) (b.toNat : Int) = ((a ^^^ b).toNat : Int) := by
  show IntKind.u8.wrap ((BitVec.ofInt 8 (a.toNat : Int) ^^^ BitVec.ofInt 8 (b.toNat : Int)).toNat : Int) = _
  rw [ofInt_u8, ofInt_u8]
  have e : (a.toBitVec ^^^ b.toBitVec).toNat = (a ^^^ b).toNat := rfl
  rw [e]
  have := (a ^^^ b).toNat_lt
  generalize (a ^^^ b).toNat = n at this ⊢
  simp [IntKind.wrap, IntKind.bits, IntKind.signed]
  omega
end Go.Proofs.Ytofebojfopcjmaa
