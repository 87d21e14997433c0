/- Packed by a program of this repo: Dd. -/
import Derived.Test.YtlhnncmflnjinaaKCDc
set_option linter.unusedSimpArgs false
set_option linter.unusedVariables false
set_option maxRecDepth 100000
namespace Go.Proofs.Ytlhnncmflnjinaa
open Go Go.RowKit Am

theorem callD_con {P : Program} {g : FuncId} {caps args cs : List AV} {I : List Nat} {r : AEnd} {σ : Hp} {id : Nat} {K : AEnd → Wr → List Nat → Prop} (h : Con P g cs r) (hb : brwL σ 6 (args ++ caps) = some (cs, I))
    (hk : K r (wrOf r σ I) I) : callD P (.fn g caps) args σ id K := .c ⟨cs, I, r, hb, h, by cases r <;> exact hk⟩
theorem callD_con0 {P : Program} {g : FuncId} {caps args cs : List AV} {r : AEnd} {σ : Hp} {id : Nat} {K : AEnd → Wr → List Nat → Prop} (h : Con P g cs r) (hb : brwL σ 6 (args ++ caps) = some (cs, []))
    (hk : K r [] []) : callD P (.fn g caps) args σ id K := by
  refine callD_con h hb ?_
  cases r with
  | ret v => by_cases hs : scal v = true <;> simpa [wrOf, hs, frz] using hk
  | pan x => exact hk
inductive Tr : Ep → Prop
  | mk (e : Ep) (h : ∀ a ∈ e.args, Tr a) : Tr e
end Go.Proofs.Ytlhnncmflnjinaa
