/- What plan.Next returns: its cases, without a program. -/
import Derived.Test.YtajpldeffhagaaaGreatPlanNext2
set_option maxRecDepth 100000
namespace Go.Proofs.YtajpldeffhagaaaGreat
open Go.ChangeShapes Go.WideShapes Go.ChangeAt Go.RowKit
set_option linter.unusedVariables false
set_option linter.unusedSimpArgs false
end Go.Proofs.YtajpldeffhagaaaGreat
