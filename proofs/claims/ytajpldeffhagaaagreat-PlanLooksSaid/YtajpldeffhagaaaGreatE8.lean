/- What is next for a task: the reference's (layer 31). -/
import Derived.Test.YtajpldeffhagaaaGreatE7
namespace Go.Proofs.YtajpldeffhagaaaGreat
open Go.RowKit E
set_option maxRecDepth 100000
set_option linter.unusedVariables false
set_option linter.unusedSimpArgs false
def liveG (st until_ now : Int) (fenced sick term kill : Bool) : Int :=
  if st = 1 then (if fenced then 4 else 2) else if st = 2 then (if fenced || sick then 4 else 0) else
  if st = 4 then (if fenced = true ∨ until_ ≤ now then 4 else if term then 0 else 6) else if kill then 0 else 5
def nextG (t : Task) (k : Look) : Step :=
  if t.state = 0 then ⟨if k.expired || k.other then 0 else 1, 0⟩ else
  if t.state = 3 then ⟨if k.expired || k.other then 0 else if t.due ≤ k.now then 1 else 0, 0⟩ else
  if t.state = 6 ∨ t.state = 7 then ⟨0, 0⟩ else
  if k.has = false then ⟨3, -1⟩ else if k.proc.alive = false then ⟨3, k.proc.code⟩ else ⟨liveG t.state t.until_ k.now k.fenced k.sick k.proc.term k.proc.kill, 0⟩
theorem errT_or (t : Task) : errT t = 0 ∨ errT t = 2 := by unfold errT errF; split <;> simp
theorem errT_le {t : Task} (h : errT t = 0) : t.state ≤ 7 := by
  unfold errT errF at h
  split at h
  · rename_i hg; exact hg.h_st
  · cases h
theorem fin {s s' : Step} (h : s = s') : AV.tup [s.av, I 0] = AV.tup [s'.av, I 0] := by rw [h]
end Go.Proofs.YtajpldeffhagaaaGreat
