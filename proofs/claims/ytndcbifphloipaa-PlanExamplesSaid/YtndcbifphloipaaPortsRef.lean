/- The reference's Meet and Union. -/
import Derived.Test.YtndcbifphloipaaData
import Derived.Test.YtndcbifphloipaaRows
import Derived.WalkKit
import Derived.ProofKit
import Derived.Lib.Hide
import Derived.Deep.RegionHeld3
import Derived.Deep.DeepCutAuto
import Derived.Deep.LoopGhost
import Derived.BigQuiet
import Derived.WalkLawsBesides
import Derived.WalkSpells
import Derived.Test.YtndcbifphloipaaPortsWith
import Derived.Test.YtndcbifphloipaaPortsSet
import Derived.Test.YtndcbifphloipaaPortsSorted
set_option maxRecDepth 100000
namespace Go.Proofs.Ytndcbifphloipaa
open Go.ChangeShapes Go.WideShapes Go.ChangeAt Go.RowKit
set_option linter.unusedVariables false
set_option linter.unusedSimpArgs false
def OutAt (w : World) (x : List Int) (v : Value) (wr : World) : Prop := wr.ownsRow w.heap.size 3 1 v x.length (x.map (Value.int .i64)) ∧ Below w.heap.size w wr
theorem OutAt.start (w : World) : OutAt w [] (.slice none 0 0) w := ⟨World.ownsRow_nil _ _ _ _, Below.refl _ _⟩
theorem OutAt.post {w wr : World} {x : List Int} {v : Value} (h : OutAt w x v wr) : IntsPost w x (.returned v) wr := IntsPost.mk h.1 rfl (Nat.le_refl _) h.2
end Go.Proofs.Ytndcbifphloipaa
