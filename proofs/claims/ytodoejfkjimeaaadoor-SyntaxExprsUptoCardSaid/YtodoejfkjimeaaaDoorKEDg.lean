/- Packed by a program of this repo: Dg. -/
import Derived.Test.YtodoejfkjimeaaaDoorKEDf
set_option linter.unusedSimpArgs false
set_option linter.unusedVariables false
set_option maxRecDepth 100000
namespace Go.Proofs.YtodoejfkjimeaaaDoor
open Go Go.RowKit Am

def cols (ts : List Tb) : Int := (ts.map (fun t => (t.columns.length : Int))).sum
/-- an expression under another op -/
def under (op : Int) (x : Ep) : Ep := .mk op 0 0 [] [] [] [x]
end Go.Proofs.YtodoejfkjimeaaaDoor
