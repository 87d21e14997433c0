/- Packed by a program of this repo: Dh. -/
import Derived.Test.YtodoejfkjimeaaaDoorKEDg
set_option linter.unusedSimpArgs false
set_option linter.unusedVariables false
set_option maxRecDepth 100000
namespace Go.Proofs.YtodoejfkjimeaaaDoor
open Go Go.RowKit Am

theorem Bd.zero : Bd .zero := .mk _ _ _ _ _ _ _ (by decide) (by decide) (by decide) (by simp) (fun a ha => by cases ha)
end Go.Proofs.YtodoejfkjimeaaaDoor
