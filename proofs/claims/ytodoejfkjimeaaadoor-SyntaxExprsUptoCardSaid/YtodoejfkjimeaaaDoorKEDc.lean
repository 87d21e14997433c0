/- Packed by a program of this repo: Dc. -/
import Derived.Test.YtodoejfkjimeaaaDoorKEDb
import Derived.Test.YtodoejfkjimeaaaDoorKECx
set_option linter.unusedSimpArgs false
set_option linter.unusedVariables false
set_option maxRecDepth 100000
namespace Go.Proofs.YtodoejfkjimeaaaDoor
open Go Go.RowKit Am

theorem encE_drop (e : Ep) : (encE e).drop 7 = [] := by rw [encE_eq]; rfl
attribute [go_sem] encE_drop
end Go.Proofs.YtodoejfkjimeaaaDoor
