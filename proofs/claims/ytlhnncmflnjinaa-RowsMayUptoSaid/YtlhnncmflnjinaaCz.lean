/- check.kind. -/
import Derived.Test.YtlhnncmflnjinaaCy
set_option linter.unusedSimpArgs false
set_option linter.unusedVariables false
set_option maxRecDepth 100000
namespace Go.Proofs.Ytlhnncmflnjinaa
open Go Go.RowKit Am

def kindF (op : Int) (l : List Int) : AEnd :=
  if op = 2 ∨ (4 ≤ op ∧ op ≤ 7) ∨ op = 20 then (if l.all (fitOk 1) = true then .ret (.sc (.int .i64 1)) else errPan 81)
  else if op = 3 ∨ op = 14 ∨ op = 15 then (if l.all (fitOk 2) = true then .ret (.sc (.int .i64 2)) else errPan 81)
  else if 8 ≤ op ∧ op ≤ 13 then (if fitOk (l.getD 0 0) (l.getD 1 0) = true then .ret (.sc (.int .i64 2)) else errPan 81)
  else if op = 18 ∨ op = 19 then .ret (.sc (.int .i64 1))
  else if 20 < op then .ret (.sc (.int .i64 (l.getD 0 0)))
  else .ret (.sc (.int .i64 2))
theorem fit_ret {asked : Int} {l : List Int} (h : l.all (fitOk asked) = true) : Con Try.prog 106 [.sc (.int .i64 asked), .tr (l.map encI)] (.ret (.tp [])) := by
  have := fit_con asked l
  rw [h] at this; exact this
theorem fit_pan {asked : Int} {l : List Int} (h : l.all (fitOk asked) = false) : Con Try.prog 106 [.sc (.int .i64 asked), .tr (l.map encI)] (errPan 81) := by
  have := fit_con asked l
  rw [h] at this; exact this
set_option maxHeartbeats 4000000 in
theorem kind_con (op : Int) (l : List Int) (h0 : 2 ≤ op ∧ op ≤ 22) (h8 : 8 ≤ op → op ≤ 13 → ∃ x y r, l = x :: y :: r) (h21 : 20 < op → ∃ x r, l = x :: r) : Con Try.prog 98 [.sc (.int .i64 op), .tr (l.map encI)] (kindF op l) := by
  refine con_of (by_check_kind ?_)
  have hop : op = 2 ∨ op = 3 ∨ op = 4 ∨ op = 5 ∨ op = 6 ∨ op = 7 ∨ op = 14 ∨ op = 15 ∨ op = 20 ∨ op = 16 ∨ op = 17 ∨ op = 18 ∨ op = 19 ∨ (op = 21 ∨ op = 22) ∨ (op = 8 ∨ op = 9 ∨ op = 10 ∨ op = 11 ∨ op = 12 ∨ op = 13) := by omega
  clear h0
  rcases hop with rfl | rfl | rfl | rfl | rfl | rfl | rfl | rfl | rfl | rfl | rfl | rfl | rfl | h | h
  iterate 9
    clear h8 h21
    simp (maxSteps := 1000000) only [kindF, go_sem, Nat.reduceAdd, Nat.reduceSub, Nat.reduceMul, Nat.reduceLeDiff, Nat.reduceEqDiff, Int.reduceAdd, Int.reduceSub, Int.reduceMul, Int.reduceNeg, Int.reduceLT, Int.reduceLE, Int.reduceEq, Int.reduceToNat, reduceCtorEq, reduceIte, Nat.zero_add, Nat.add_zero, *]
    generalize hR : RC _ = R
    have HR := Lib.hid hR; clear hR
    simp (maxSteps := 1000000) only [sh_check_kind, go_sem, Nat.reduceAdd, Nat.reduceSub, Nat.reduceMul, Nat.reduceLeDiff, Nat.reduceEqDiff, Int.reduceAdd, Int.reduceSub, Int.reduceMul, Int.reduceNeg, Int.reduceLT, Int.reduceLE, Int.reduceEq, Int.reduceToNat, reduceCtorEq, reduceIte, Nat.zero_add, Nat.add_zero, *]
    rw [← HR.out]; clear HR
    split
    · rename_i hl
      refine CALL_con0 (fit_ret hl) rfl ?_
      simp (maxSteps := 1000000) only [go_sem, Nat.reduceAdd, Nat.reduceSub, Nat.reduceMul, Nat.reduceLeDiff, Nat.reduceEqDiff, Int.reduceAdd, Int.reduceSub, Int.reduceMul, Int.reduceNeg, Int.reduceLT, Int.reduceLE, Int.reduceEq, Int.reduceToNat, reduceCtorEq, reduceIte, Nat.zero_add, Nat.add_zero, *]
      exact RC_ret rfl rfl
    · rename_i hl
      refine CALL_con0 (fit_pan (by simpa using hl)) rfl ?_
      simp (maxSteps := 1000000) only [go_sem, Nat.reduceAdd, Nat.reduceSub, Nat.reduceMul, Nat.reduceLeDiff, Nat.reduceEqDiff, Int.reduceAdd, Int.reduceSub, Int.reduceMul, Int.reduceNeg, Int.reduceLT, Int.reduceLE, Int.reduceEq, Int.reduceToNat, reduceCtorEq, reduceIte, Nat.zero_add, Nat.add_zero, *]
      exact RC_pan rfl
  iterate 4
    clear h8 h21
    simp (maxSteps := 1000000) only [kindF, go_sem, Nat.reduceAdd, Nat.reduceSub, Nat.reduceMul, Nat.reduceLeDiff, Nat.reduceEqDiff, Int.reduceAdd, Int.reduceSub, Int.reduceMul, Int.reduceNeg, Int.reduceLT, Int.reduceLE, Int.reduceEq, Int.reduceToNat, reduceCtorEq, reduceIte, Nat.zero_add, Nat.add_zero, *]
    simp (maxSteps := 1000000) only [sh_check_kind, go_sem, Nat.reduceAdd, Nat.reduceSub, Nat.reduceMul, Nat.reduceLeDiff, Nat.reduceEqDiff, Int.reduceAdd, Int.reduceSub, Int.reduceMul, Int.reduceNeg, Int.reduceLT, Int.reduceLE, Int.reduceEq, Int.reduceToNat, reduceCtorEq, reduceIte, Nat.zero_add, Nat.add_zero, *]
    exact RC_ret rfl rfl
  · obtain ⟨x, r, rfl⟩ := h21 (by omega)
    clear h8 h21
    rcases h with rfl | rfl
    all_goals
      simp (maxSteps := 1000000) only [kindF, go_sem, Nat.reduceAdd, Nat.reduceSub, Nat.reduceMul, Nat.reduceLeDiff, Nat.reduceEqDiff, Int.reduceAdd, Int.reduceSub, Int.reduceMul, Int.reduceNeg, Int.reduceLT, Int.reduceLE, Int.reduceEq, Int.reduceToNat, reduceCtorEq, reduceIte, Nat.zero_add, Nat.add_zero, *]
      simp (maxSteps := 1000000) only [sh_check_kind, encI, go_sem, Nat.reduceAdd, Nat.reduceSub, Nat.reduceMul, Nat.reduceLeDiff, Nat.reduceEqDiff, Int.reduceAdd, Int.reduceSub, Int.reduceMul, Int.reduceNeg, Int.reduceLT, Int.reduceLE, Int.reduceEq, Int.reduceToNat, reduceCtorEq, reduceIte, Nat.zero_add, Nat.add_zero, *]
      exact RC_ret rfl rfl
  · obtain ⟨x, y, r, rfl⟩ := h8 (by omega) (by omega)
    clear h8 h21
    rcases h with rfl | rfl | rfl | rfl | rfl | rfl
    all_goals
      simp (maxSteps := 1000000) only [kindF, go_sem, Nat.reduceAdd, Nat.reduceSub, Nat.reduceMul, Nat.reduceLeDiff, Nat.reduceEqDiff, Int.reduceAdd, Int.reduceSub, Int.reduceMul, Int.reduceNeg, Int.reduceLT, Int.reduceLE, Int.reduceEq, Int.reduceToNat, reduceCtorEq, reduceIte, Nat.zero_add, Nat.add_zero, *]
      simp (maxSteps := 1000000) only [sh_check_kind, encI, go_sem, Nat.reduceAdd, Nat.reduceSub, Nat.reduceMul, Nat.reduceLeDiff, Nat.reduceEqDiff, Int.reduceAdd, Int.reduceSub, Int.reduceMul, Int.reduceNeg, Int.reduceLT, Int.reduceLE, Int.reduceEq, Int.reduceToNat, reduceCtorEq, reduceIte, Nat.zero_add, Nat.add_zero, *]
      cases hf : fitOk x y
      · refine callD_conP (fit_pan (asked := x) (l := [y]) (by simp [hf])) (by simp (contextual := true) (maxSteps := 1000000) (disch := omega) only [go_sem, wrapI, wrapB, upd_is, upd_not, Nat.reduceAdd, Nat.reduceSub, Nat.reduceMul, Nat.reduceLeDiff, Nat.reduceEqDiff, Int.reduceAdd, Int.reduceSub, Int.reduceMul, Int.reduceNeg, Int.reduceLT, Int.reduceLE, Int.reduceEq, Int.reduceToNat, reduceCtorEq, reduceIte, Nat.zero_add, Nat.add_zero, *]; rfl) ?_
        simp (contextual := true) (maxSteps := 1000000) (disch := omega) only [go_sem, wrapI, wrapB, upd_is, upd_not, Nat.reduceAdd, Nat.reduceSub, Nat.reduceMul, Nat.reduceLeDiff, Nat.reduceEqDiff, Int.reduceAdd, Int.reduceSub, Int.reduceMul, Int.reduceNeg, Int.reduceLT, Int.reduceLE, Int.reduceEq, Int.reduceToNat, reduceCtorEq, reduceIte, Nat.zero_add, Nat.add_zero, *]
        exact fun _ _ => RC_pan rfl
      · refine callD_conS (fit_ret (asked := x) (l := [y]) (by simp [hf])) (by simp (contextual := true) (maxSteps := 1000000) (disch := omega) only [go_sem, wrapI, wrapB, upd_is, upd_not, Nat.reduceAdd, Nat.reduceSub, Nat.reduceMul, Nat.reduceLeDiff, Nat.reduceEqDiff, Int.reduceAdd, Int.reduceSub, Int.reduceMul, Int.reduceNeg, Int.reduceLT, Int.reduceLE, Int.reduceEq, Int.reduceToNat, reduceCtorEq, reduceIte, Nat.zero_add, Nat.add_zero, *]; rfl) rfl ?_
        simp (contextual := true) (maxSteps := 1000000) (disch := omega) only [go_sem, wrapI, wrapB, upd_is, upd_not, Nat.reduceAdd, Nat.reduceSub, Nat.reduceMul, Nat.reduceLeDiff, Nat.reduceEqDiff, Int.reduceAdd, Int.reduceSub, Int.reduceMul, Int.reduceNeg, Int.reduceLT, Int.reduceLE, Int.reduceEq, Int.reduceToNat, reduceCtorEq, reduceIte, Nat.zero_add, Nat.add_zero, *]
        first
          | exact fun _ _ => RC_ret rfl rfl
          | exact RC_ret rfl rfl
end Go.Proofs.Ytlhnncmflnjinaa
