/- Packed by a program of this repo: Df. -/
import Derived.Test.YtodoejfkjimeaaaDoorKEDe
set_option linter.unusedSimpArgs false
set_option linter.unusedVariables false
set_option maxRecDepth 100000
namespace Go.Proofs.YtodoejfkjimeaaaDoor
open Go Go.RowKit Am

end Go.Proofs.YtodoejfkjimeaaaDoor
