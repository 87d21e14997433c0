/- Packed by a program of this repo: Qo. -/
import Derived.Test.YtlhnncmflnjinaaKBPf
import Derived.Test.YtlhnncmflnjinaaKBQg
set_option linter.unusedSimpArgs false
set_option linter.unusedVariables false
set_option maxRecDepth 100000
namespace Go.Proofs.Ytlhnncmflnjinaa
open Go Go.RowKit Am Go.ChangeShapes Go.WideShapes Go.ChangeAt
attribute [-go_sem] guardP_if guardK_if guardD_if COND_bool
attribute [local go_sem low] guardP_if guardK_if guardD_if COND_bool

instance : Inhabited Se := ⟨⟨[], .zero⟩⟩
instance : Inhabited Od := ⟨⟨0, false⟩⟩
theorem LBd.of {l : List Ep} (h : l.length ≤ 1048576 ∧ ∀ a ∈ l, BdRg a) : LBd l := ⟨h.1, fun e he => (h.2 e he).1⟩
end Go.Proofs.Ytlhnncmflnjinaa
