/- A specification brought near. -/
import Derived.Test.YtdblhmpcilihnaaGreatLa
import Derived.Test.YtdblhmpcilihnaaGreatLb
import Derived.Test.YtdblhmpcilihnaaGreatLc
namespace Go.Proofs.YtdblhmpcilihnaaGreat
open Go.RowKit E
set_option maxRecDepth 100000
set_option linter.unusedVariables false
set_option linter.unusedSimpArgs false
theorem spec_p (x : Spec) : Pure Tryz.prog 58 [x.av] (specN x).av := by
  have ht : x.tasks.length = 0 ∨ x.tasks.length = 1 ∨ 2 ≤ x.tasks.length := by omega
  have hp : x.ports.length = 0 ∨ x.ports.length = 1 ∨ 2 ≤ x.ports.length := by omega
  rcases hp with hp | hp | hp <;> rcases ht with ht | ht | ht
  · exact spec_00 x hp ht
  · exact spec_01 x hp ht
  · exact spec_02 x hp ht
  · exact spec_10 x hp ht
  · exact spec_11 x hp ht
  · exact spec_12 x hp ht
  · exact spec_20 x hp ht
  · exact spec_21 x hp ht
  · exact spec_22 x hp ht
end Go.Proofs.YtdblhmpcilihnaaGreat
