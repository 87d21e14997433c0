/- The abstract machine: the slots that a function's loops keep. -/
import Derived.Test.YtlhnncmflnjinaaMp
set_option linter.unusedSimpArgs false
set_option linter.unusedVariables false
namespace Go.Proofs.Ytlhnncmflnjinaa.Am
open Go Go.RowKit

def resSlots : List RV → List Nat
  | [] => []
  | .t i :: l => i :: resSlots l
  | .c i _ :: l => i :: resSlots l
/-- a function's results, the slots kept, and its code -/
def codeOf (P : Program) (fn : Func) : Option (List RV × List Nat × SCode) := match fn.body, resT P fn.results.toList with
  | some c, some rs => (match cmpC P fn.ntmps [] c with
    | some sc => (cmpC P fn.ntmps (dedup (expo sc ++ resSlots rs)) c).map fun sc' => (rs, dedup (expo sc ++ resSlots rs), sc')
    | none => none)
  | _, _ => none
end Go.Proofs.Ytlhnncmflnjinaa.Am
