/- Packed by a program of this repo: Rg. -/
import Derived.Test.YtodoejfkjimeaaaDoorKECa
set_option linter.unusedSimpArgs false
set_option linter.unusedVariables false
namespace Go.Proofs.YtodoejfkjimeaaaDoor
open Go Go.RowKit Am

/-- a value's number fits a machine word -/
def rng (n : Int) : Prop := -9223372036854775808 ≤ n ∧ n ≤ 9223372036854775807
/-- numbers fit machine words -/
inductive Rg : Ep → Prop
  | mk (e : Ep) (h : rng e.n) (ha : ∀ a ∈ e.args, Rg a) : Rg e
theorem Rg.arg {e a : Ep} {i : Nat} (h : Rg e) (hx : e.args[i]? = some a) : Rg a := by
  cases h with
  | mk e h ha => exact ha a (List.mem_of_getElem? hx)
end Go.Proofs.YtodoejfkjimeaaaDoor
