/- Packed by a program of this repo: Dd. -/
import Derived.Test.YtodoejfkjimeaaaDoorKPDc
set_option linter.unusedSimpArgs false
set_option linter.unusedVariables false
set_option maxRecDepth 100000
namespace Go.Proofs.YtodoejfkjimeaaaDoor
open Go Go.RowKit Am

inductive Tr : Ep → Prop
  | mk (e : Ep) (h : ∀ a ∈ e.args, Tr a) : Tr e
end Go.Proofs.YtodoejfkjimeaaaDoor
