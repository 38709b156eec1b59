/- boot's closed examples, run outright by the engine. -/
import Derived.Test.YtndcbifphloipaaGreatOrc
namespace Go.Proofs.YtndcbifphloipaaGreat
open E
set_option maxRecDepth 100000
theorem bootExamples_p : Pure Tryz.prog 3 [] (.val (.bool true)) := pure_runG mxr orc_ok (fun _ => false) 200 40 (by kernel_rfl)
end Go.Proofs.YtndcbifphloipaaGreat
