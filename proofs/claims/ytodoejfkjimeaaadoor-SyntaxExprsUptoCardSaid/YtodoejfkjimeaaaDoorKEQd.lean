/- Packed by a program of this repo: Qd. -/
import Derived.Test.YtodoejfkjimeaaaDoorKEQa
import Derived.Test.YtodoejfkjimeaaaDoorKEMs
set_option linter.unusedSimpArgs false
set_option linter.unusedVariables false
set_option maxRecDepth 100000
namespace Go.Proofs.YtodoejfkjimeaaaDoor
open Go Go.RowKit Am
attribute [-go_sem] guardP_if guardK_if guardD_if COND_bool
attribute [local go_sem low] guardP_if guardK_if guardD_if COND_bool

theorem clR_con (l : List (List Ep)) (hl : l.length ≤ 1048576) (id : Nat) : ConW Tryd.prog 99 [.tr (l.map encRx)] [] id (.ret (.ow id 1 0 l.length)) [(id, some (.c ⟨1, l.map encRx, true, true⟩))] := by
  refine conW_ofE (k := 1) (cl := true) (by kernel_rfl) (fun σ n _ hid hn hf => by_slices_Clone_llapi_Expr_lapi_Expr ?_)
  generalize hR : (fun (r' : AEnd) (σ' : Hp) (_ : Nat) => _) = R
  have HR := Lib.hid hR; clear hR
  have hfr : ∀ j, n ≤ j → ∀ q, q < 16 → j ≠ id + q := fun j hj q hq => by omega
  have HFR := Lib.hid hfr; clear hfr
  have HF := Lib.hid hf; clear hf
  have hnn : ¬ n = n + 16 := by omega
  cases l with
  | nil =>
    simp (maxSteps := 1000000) (disch := omega) only [sh_slices_Clone_llapi_Expr_lapi_Expr, go_sem, wrapI, wrapB, upd_is, upd_not, Nat.reduceAdd, Nat.reduceSub, Nat.reduceMul, Nat.reduceLeDiff, Nat.reduceEqDiff, Int.reduceAdd, Int.reduceSub, Int.reduceMul, Int.reduceNeg, Int.reduceLT, Int.reduceLE, Int.reduceEq, Int.reduceToNat, reduceCtorEq, reduceIte, Nat.zero_add, Nat.add_zero, *]
    constructor
    · rw [← HR.out]
      exact .inr ⟨rfl, rfl, rfl, fun i x h => h⟩
    · rw [← HR.out]
      refine .inl (wn_new ?_ (HFR.out _ (by omega)) (HF.out _ (by omega)) (fun i y hy => ?_))
      · simp only [upd_is]
        rfl
      · have h1 : i ≠ n := fun e => by rw [e, HF.out n (by omega)] at hy; cases hy
        have h2 : i ≠ n + 16 := fun e => by rw [e, HF.out (n + 16) (by omega)] at hy; cases hy
        simp only [upd_not h1, upd_not h2]; exact hy
  | cons v r =>
    have hl2 : (r.length + 1) * 24 ≤ 140737488355328 := by simp at hl; omega
    simp (maxSteps := 1000000) (disch := omega) only [sh_slices_Clone_llapi_Expr_lapi_Expr, encRx, go_sem, wrapI, wrapB, upd_is, upd_not, Nat.reduceAdd, Nat.reduceSub, Nat.reduceMul, Nat.reduceLeDiff, Nat.reduceEqDiff, Int.reduceAdd, Int.reduceSub, Int.reduceMul, Int.reduceNeg, Int.reduceLT, Int.reduceLE, Int.reduceEq, Int.reduceToNat, reduceCtorEq, reduceIte, Nat.zero_add, Nat.add_zero, *]
    rw [← HR.out]
    refine .inl (wn_new ?_ (HFR.out _ (by omega)) (HF.out _ (by omega)) (fun i y hy => ?_))
    · simp only [upd_is]
      rfl
    · have h1 : i ≠ n := fun e => by rw [e, HF.out n (by omega)] at hy; cases hy
      have h2 : i ≠ n + 16 := fun e => by rw [e, HF.out (n + 16) (by omega)] at hy; cases hy
      simp only [upd_not h1, upd_not h2]; exact hy
end Go.Proofs.YtodoejfkjimeaaaDoor
