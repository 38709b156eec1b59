/- plan's closed examples, run outright by the engine. -/
import Derived.Test.YtndcbifphloipaaOrc
namespace Go.Proofs.Ytndcbifphloipaa
open E
set_option maxRecDepth 100000
theorem planExamples_p : Pure Try.prog 3 [] (.val (.bool true)) := pure_runG mxr orc_ok (fun _ => false) 200 40 (by kernel_rfl)
end Go.Proofs.Ytndcbifphloipaa
