/- Packed by a program of this repo: Ss. -/
import Derived.Test.YtodoejfkjimeaaaDoorKESr
import Derived.Test.YtodoejfkjimeaaaDoorKEQf
import Derived.Test.YtodoejfkjimeaaaDoorKERx
set_option linter.unusedSimpArgs false
set_option linter.unusedVariables false
set_option maxRecDepth 100000
namespace Go.Proofs.YtodoejfkjimeaaaDoor
open Go Go.RowKit Am
attribute [-go_sem] guardP_if guardK_if guardD_if COND_bool
attribute [local go_sem low] guardP_if guardK_if guardD_if COND_bool

def ppF (e : Ep) : Tx × Int := if (walkF 12 e 0).1 = 0 then (printF e, 0) else ([], (walkF 12 e 0).1)
theorem printExpr_con (e : Ep) (he : BdRg e) : Con Tryd.prog 10 [.ag (encE e)] (.ret (.tp [.s (ppF e).1, .sc (.int .i64 (ppF e).2)])) := by
  refine con_of (by_syntax_PrintExpr ?_)
  generalize hR : RC _ = R
  have HR := Lib.hid hR; clear hR
  have HC := Lib.hid (checkExpr_con e he.1)
  have HP := Lib.hid (fun h => printed_con 12 e (by omega) (walk_ok 12 e 0 h) he.1 he.2)
  have hp : ppF e = if (walkF 12 e 0).1 = 0 then (printF e, 0) else ([], (walkF 12 e 0).1) := rfl
  have HPP := Lib.hid hp; clear hp he
  simp (maxSteps := 1000000) (disch := omega) only [sh_syntax_PrintExpr, go_sem, wrapI, wrapB, upd_is, upd_not, Nat.reduceAdd, Nat.reduceSub, Nat.reduceMul, Nat.reduceLeDiff, Nat.reduceEqDiff, Int.reduceAdd, Int.reduceSub, Int.reduceMul, Int.reduceNeg, Int.reduceLT, Int.reduceLE, Int.reduceEq, Int.reduceToNat, reduceCtorEq, reduceIte, Nat.zero_add, Nat.add_zero, *]
  refine CALL_con0 HC.out (by simp only [List.append_nil, brwL_cons, brwL_nil, brw_ag, encE_brw, Option.map_some]) ?_
  generalize (walkF 12 e 0).1 = m at *
  by_cases h : m = 0
  · have HP' := Lib.hid (HP.out h); clear HP
    simp (maxSteps := 1000000) (disch := omega) only [decide_true, decide_false, go_sem, wrapI, wrapB, upd_is, upd_not, Nat.reduceAdd, Nat.reduceSub, Nat.reduceMul, Nat.reduceLeDiff, Nat.reduceEqDiff, Int.reduceAdd, Int.reduceSub, Int.reduceMul, Int.reduceNeg, Int.reduceLT, Int.reduceLE, Int.reduceEq, Int.reduceToNat, reduceCtorEq, reduceIte, Nat.zero_add, Nat.add_zero, *]
    refine CALL_con0 HP'.out (by simp only [List.append_nil, brwL_cons, brwL_nil, brw_ag, encE_brw, Option.map_some]) ?_
    simp (maxSteps := 1000000) (disch := omega) only [go_sem, wrapI, wrapB, upd_is, upd_not, Nat.reduceAdd, Nat.reduceSub, Nat.reduceMul, Nat.reduceLeDiff, Nat.reduceEqDiff, Int.reduceAdd, Int.reduceSub, Int.reduceMul, Int.reduceNeg, Int.reduceLT, Int.reduceLE, Int.reduceEq, Int.reduceToNat, reduceCtorEq, reduceIte, Nat.zero_add, Nat.add_zero, *]
    rw [← HR.out]; exact RC_ret rfl (by rw [HPP.out, if_pos h])
  · clear HP
    simp (maxSteps := 1000000) (disch := omega) only [decide_true, decide_false, go_sem, wrapI, wrapB, upd_is, upd_not, Nat.reduceAdd, Nat.reduceSub, Nat.reduceMul, Nat.reduceLeDiff, Nat.reduceEqDiff, Int.reduceAdd, Int.reduceSub, Int.reduceMul, Int.reduceNeg, Int.reduceLT, Int.reduceLE, Int.reduceEq, Int.reduceToNat, reduceCtorEq, reduceIte, Nat.zero_add, Nat.add_zero, *]
    rw [← HR.out]; exact RC_ret rfl (by rw [HPP.out, if_neg h])
theorem num4_con (n : Int) : Con Tryd.prog 11 [.sc (.int .i64 n)] (.ret (.sc (.int .i64 n))) := by
  refine con_of (by_law04_num ?_)
  exact RC_ret rfl rfl
def ea : Ep := .mk 1 0 0 [] [] [97] []
def e1 : Ep := .mk 0 1 1 [] [] [] []
def e4 : Ep := .mk 4 0 0 [] [] [] [ea, e1]
def sm8 : Sm := ⟨8, [], [], [], [], [], [], [], [], [], [], [], [], 0⟩
theorem pp4 : ppF e4 = ([40, 97, 32, 43, 32, 49, 41], 0) := by kernel_rfl
theorem ch8 : checkF sm8 = 0 := by kernel_rfl
theorem e4_bd : BdRg e4 := by
  have ha : BdRg ea := ⟨.mk _ _ _ _ _ _ _ (by decide) (by decide) (by decide) (by decide) (fun a h => by cases h), .mk _ (by unfold rng; decide) (fun a h => by cases h)⟩
  have h1 : BdRg e1 := ⟨.mk _ _ _ _ _ _ _ (by decide) (by decide) (by decide) (by decide) (fun a h => by cases h), .mk _ (by unfold rng; decide) (fun a h => by cases h)⟩
  refine ⟨.mk _ _ _ _ _ _ _ (by decide) (by decide) (by decide) (by simp) ?_, .mk _ (by unfold rng; decide) ?_⟩
  · intro a h
    rcases List.mem_cons.1 h with rfl | h
    · exact ha.1
    · rcases List.mem_cons.1 h with rfl | h
      · exact h1.1
      · cases h
  · intro a h
    rcases List.mem_cons.1 h with rfl | h
    · exact ha.2
    · rcases List.mem_cons.1 h with rfl | h
      · exact h1.2
      · cases h
theorem sm8_bd : SBd sm8 := by
  refine ⟨by decide, by decide, by decide, by decide, by decide, ?_, by decide, ?_, by decide, ?_, ⟨by decide, ?_⟩, ⟨by decide, ?_⟩, ⟨by decide, ?_⟩, ⟨by decide, ?_⟩, by decide⟩
  all_goals intro c hc; cases hc
theorem alive4_con : Con Tryd.prog 9 [] (.ret (.sc (.bool true))) := by
  refine con_of (by_law04_alive ?_)
  have HP := Lib.hid (printExpr_con e4 e4_bd)
  rw [pp4] at HP
  have HC := Lib.hid (check_con sm8 sm8_bd)
  rw [ch8] at HC
  simp (maxSteps := 1000000) (disch := omega) only [sh_law04_alive, go_sem, wrapI, wrapB, upd_is, upd_not, Nat.reduceAdd, Nat.reduceSub, Nat.reduceMul, Nat.reduceLeDiff, Nat.reduceEqDiff, Int.reduceAdd, Int.reduceSub, Int.reduceMul, Int.reduceNeg, Int.reduceLT, Int.reduceLE, Int.reduceEq, Int.reduceToNat, reduceCtorEq, reduceIte, Nat.zero_add, Nat.add_zero, *]
  refine CALL_con (I := [0]) HP.out (by simp (disch := omega) only [List.append_nil, brw_ag, Option.map_some, brwL_cons, brwL_nil, brw_s, brw_em, brw_ow', upd_is, upd_not, brw_sc]; rfl) ?_
  simp (maxSteps := 1000000) (disch := omega) only [go_sem, wrapI, wrapB, upd_is, upd_not, Nat.reduceAdd, Nat.reduceSub, Nat.reduceMul, Nat.reduceLeDiff, Nat.reduceEqDiff, Int.reduceAdd, Int.reduceSub, Int.reduceMul, Int.reduceNeg, Int.reduceLT, Int.reduceLE, Int.reduceEq, Int.reduceToNat, reduceCtorEq, reduceIte, Nat.zero_add, Nat.add_zero, *]
  refine CALL_con0 (num4_con 0) rfl ?_
  simp (maxSteps := 1000000) (disch := omega) only [decide_true, decide_false, go_sem, wrapI, wrapB, upd_is, upd_not, Nat.reduceAdd, Nat.reduceSub, Nat.reduceMul, Nat.reduceLeDiff, Nat.reduceEqDiff, Int.reduceAdd, Int.reduceSub, Int.reduceMul, Int.reduceNeg, Int.reduceLT, Int.reduceLE, Int.reduceEq, Int.reduceToNat, reduceCtorEq, reduceIte, Nat.zero_add, Nat.add_zero, *]
  refine CALL_con0 HC.out rfl ?_
  simp (maxSteps := 1000000) (disch := omega) only [decide_true, decide_false, go_sem, wrapI, wrapB, upd_is, upd_not, Nat.reduceAdd, Nat.reduceSub, Nat.reduceMul, Nat.reduceLeDiff, Nat.reduceEqDiff, Int.reduceAdd, Int.reduceSub, Int.reduceMul, Int.reduceNeg, Int.reduceLT, Int.reduceLE, Int.reduceEq, Int.reduceToNat, reduceCtorEq, reduceIte, Nat.zero_add, Nat.add_zero, *]
  exact RC_ret rfl rfl
end Go.Proofs.YtodoejfkjimeaaaDoor
