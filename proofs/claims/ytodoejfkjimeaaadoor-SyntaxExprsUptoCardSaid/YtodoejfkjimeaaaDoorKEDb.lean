/- Packed by a program of this repo: Db. -/
import Derived.Test.YtodoejfkjimeaaaDoorKEDa
set_option linter.unusedSimpArgs false
set_option linter.unusedVariables false
set_option maxRecDepth 100000
namespace Go.Proofs.YtodoejfkjimeaaaDoor
open Go Go.RowKit Am

theorem encE_brw (σ : Hp) (d : Nat) (e : Ep) : brwL σ d (encE e) = some (encE e, []) := by
  simp only [brwL_cons, brwL_nil, brw_ag, brw_sc, brw_tr, encE_eq, brw_s, List.append_nil, Option.map_some, List.nil_append]
attribute [go_sem] encE_brw
/-- an expression that may be -/
inductive Gd : Ep → Prop
  | mk (e : Ep) (h : partOk e = true) (ha : ∀ a ∈ e.args, Gd a) : Gd e
theorem partOk_args {e : Ep} (h : partOk e = true) : (argsN e.op).2 = true ∧ (argsN e.op).1 = (e.args.length : Int) := by
  unfold partOk at h
  rw [Bool.and_eq_true, Bool.and_eq_true] at h
  exact ⟨h.1.1, of_decide_eq_true h.1.2⟩
end Go.Proofs.YtodoejfkjimeaaaDoor
