/- Packed by a program of this repo: GbR. -/
import Derived.Test.YtlhnncmflnjinaaKCGc
import Derived.Deep.RegionLaw
import Derived.Shelf.Spec.SlicesInsert
import Derived.Test.YtlhnncmflnjinaaProg
set_option linter.unusedSimpArgs false
set_option linter.unusedVariables false
set_option maxRecDepth 100000
namespace Go.Proofs.Ytlhnncmflnjinaa
open Go Go.RowKit

end Go.Proofs.Ytlhnncmflnjinaa
