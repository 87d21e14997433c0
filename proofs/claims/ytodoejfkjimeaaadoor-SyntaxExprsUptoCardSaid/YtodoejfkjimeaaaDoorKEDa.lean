/- Packed by a program of this repo: Da. -/
import Derived.Test.YtodoejfkjimeaaaDoorKECz
set_option linter.unusedSimpArgs false
set_option linter.unusedVariables false
set_option maxRecDepth 100000
namespace Go.Proofs.YtodoejfkjimeaaaDoor
open Go Go.RowKit Am

theorem encT_len (t : Tb) : (encT t).length = 4 := rfl
theorem encC_len (c : Cl) : (encC c).length = 3 := rfl
attribute [go_sem] encT_len encC_len
/-- what is found so far: how many, is the table known, the place, the kind, the base -/
structure Pl where
  found : Int
  known : Bool
  at_ : Int
  kind : Int
  base : Int
end Go.Proofs.YtodoejfkjimeaaaDoor
