/- What the walks of this seat import: the program with its facts, the kinds. No data of the program's own here. -/
import Derived.Test.YtafnhoccaddagaaMem
import Derived.Test.YtafnhoccaddagaaChecked
namespace Go.Proofs.Ytafnhoccaddagaa
theorem seatData : True := trivial
end Go.Proofs.Ytafnhoccaddagaa
