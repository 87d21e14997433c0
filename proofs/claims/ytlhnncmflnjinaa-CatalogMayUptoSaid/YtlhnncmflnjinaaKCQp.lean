/- Packed by a program of this repo: Qp. -/
import Derived.Test.YtlhnncmflnjinaaKCQl
import Derived.Test.YtlhnncmflnjinaaKCPf
set_option linter.unusedSimpArgs false
set_option linter.unusedVariables false
set_option maxRecDepth 100000
namespace Go.Proofs.Ytlhnncmflnjinaa
open Go Go.RowKit Am
attribute [-go_sem] guardP_if guardK_if guardD_if COND_bool
attribute [local go_sem low] guardP_if guardK_if guardD_if COND_bool

end Go.Proofs.Ytlhnncmflnjinaa
