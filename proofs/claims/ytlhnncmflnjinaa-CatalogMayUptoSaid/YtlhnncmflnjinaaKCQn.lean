/- Packed by a program of this repo: Qn. -/
import Derived.Test.YtlhnncmflnjinaaKCQj
import Derived.Test.YtlhnncmflnjinaaKCQm
import Derived.Test.YtlhnncmflnjinaaKCQp
set_option linter.unusedSimpArgs false
set_option linter.unusedVariables false
set_option maxRecDepth 100000
namespace Go.Proofs.Ytlhnncmflnjinaa
open Go Go.RowKit Am
attribute [-go_sem] guardP_if guardK_if guardD_if COND_bool
attribute [local go_sem low] guardP_if guardK_if guardD_if COND_bool

def sm6 : Sm := ⟨1, [116], [⟨[97], 1, false⟩], [97], [], [], [], [], [], [], [], [], [], 0⟩
def tb6 : Tb := ⟨[116], [⟨[97], 1, true⟩], 0, []⟩
theorem sm6_bd : SBd sm6 := by
  refine ⟨by decide, by decide, by decide, by decide, by decide, ?_, by decide, ?_, by decide, ?_, ⟨by decide, ?_⟩, ⟨by decide, ?_⟩, ⟨by decide, ?_⟩, ⟨by decide, ?_⟩, by decide⟩
  · intro c hc; simp [sm6] at hc; subst hc; simp
  all_goals intro c hc; cases hc
theorem create6 : createF [] sm6 = ([tb6], 0) := by kernel_rfl
theorem cbd_nil : CBd [] := ⟨by simp, fun t h => by cases h⟩
theorem alive6_con : Con Try.prog 35 [] (.ret (.sc (.bool true))) := by
  refine con_of (by_law06_alive ?_)
  have HC := Lib.hid (create_con [] sm6 cbd_nil sm6_bd)
  rw [create6] at HC
  simp (maxSteps := 1000000) (disch := omega) only [sh_law06_alive, go_sem, wrapI, wrapB, upd_is, upd_not, Nat.reduceAdd, Nat.reduceSub, Nat.reduceMul, Nat.reduceLeDiff, Nat.reduceEqDiff, Int.reduceAdd, Int.reduceSub, Int.reduceMul, Int.reduceNeg, Int.reduceLT, Int.reduceLE, Int.reduceEq, Int.reduceToNat, reduceCtorEq, reduceIte, Nat.zero_add, Nat.add_zero, *]
  refine CALL_con (I := [0]) HC.out (by simp (disch := omega) only [List.append_nil, brw_ag, Option.map_some, brwL_cons, brwL_nil, brw_s, brw_em, brw_ow', upd_is, upd_not, brw_sc]; rfl) ?_
  simp (maxSteps := 1000000) (disch := omega) only [stRes, go_sem, wrapI, wrapB, upd_is, upd_not, Nat.reduceAdd, Nat.reduceSub, Nat.reduceMul, Nat.reduceLeDiff, Nat.reduceEqDiff, Int.reduceAdd, Int.reduceSub, Int.reduceMul, Int.reduceNeg, Int.reduceLT, Int.reduceLE, Int.reduceEq, Int.reduceToNat, reduceCtorEq, reduceIte, Nat.zero_add, Nat.add_zero, *]
  refine CALL_con0 (num6_con 0) rfl ?_
  have c1 : ((1 : Nat) : Int) = 1 := rfl
  simp (maxSteps := 1000000) (disch := omega) only [encT, tb6, encC, List.map_cons, List.map_nil, decide_true, c1, go_sem, wrapI, wrapB, upd_is, upd_not, Nat.reduceAdd, Nat.reduceSub, Nat.reduceMul, Nat.reduceLeDiff, Nat.reduceEqDiff, Int.reduceAdd, Int.reduceSub, Int.reduceMul, Int.reduceNeg, Int.reduceLT, Int.reduceLE, Int.reduceEq, Int.reduceToNat, reduceCtorEq, reduceIte, Nat.zero_add, Nat.add_zero, *]
  exact RC_ret rfl rfl
end Go.Proofs.Ytlhnncmflnjinaa
