/- Packed by a program of this repo: Db. -/
import Derived.Test.YtodoejfkjimeaaaDoorKPDa
set_option linter.unusedSimpArgs false
set_option linter.unusedVariables false
set_option maxRecDepth 100000
namespace Go.Proofs.YtodoejfkjimeaaaDoor
open Go Go.RowKit Am

theorem encE_brw (σ : Hp) (d : Nat) (e : Ep) : brwL σ d (encE e) = some (encE e, []) := by
  simp only [brwL_cons, brwL_nil, brw_ag, brw_sc, brw_tr, encE_eq, brw_s, List.append_nil, Option.map_some, List.nil_append]
attribute [go_sem] encE_brw
/-- an expression that may be -/
inductive Gd : Ep → Prop
  | mk (e : Ep) (h : partOk e = true) (ha : ∀ a ∈ e.args, Gd a) : Gd e
end Go.Proofs.YtodoejfkjimeaaaDoor
