/- Packed by a program of this repo: Qm. -/
import Derived.Test.YtlhnncmflnjinaaKBQk
set_option linter.unusedSimpArgs false
set_option linter.unusedVariables false
set_option maxRecDepth 100000
namespace Go.Proofs.Ytlhnncmflnjinaa
open Go Go.RowKit Am
attribute [-go_sem] guardP_if guardK_if guardD_if COND_bool
attribute [local go_sem low] guardP_if guardK_if guardD_if COND_bool

theorem num6_con (n : Int) : Con Try.prog 39 [.sc (.int .i64 n)] (.ret (.sc (.int .i64 n))) := by
  refine con_of (by_law06_num ?_)
  exact RC_ret rfl rfl
theorem aEqs_C (c : Cl) : aEqs [2, 0, 1] true (.ag (encC c)) (.ag (encC c)) = some (.sc (.bool false)) := by
  simp [aEqs, eqK, encC, bb]
theorem aEqs_X (c : Ix) : aEqs [2, 0] true (.ag (encX c)) (.ag (encX c)) = some (.sc (.bool false)) := by
  simp [aEqs, eqK, encX, bb]
set_option maxHeartbeats 4000000 in
theorem alike_con (t : Tb) : Con Try.prog 44 [.ag (encT t), .ag (encT t)] (.ret (.sc (.int .i64 0))) := by
  refine con_of (by_law06_Alike ?_)
  generalize hR : RC _ = R
  have HR := Lib.hid hR; clear hR
  obtain ⟨name, columns, key, indexes⟩ := t
  simp (maxSteps := 1000000) (disch := omega) only [sh_law06_Alike, encT, decide_true, decide_false, go_sem, wrapI, wrapB, upd_is, upd_not, Nat.reduceAdd, Nat.reduceSub, Nat.reduceMul, Nat.reduceLeDiff, Nat.reduceEqDiff, Int.reduceAdd, Int.reduceSub, Int.reduceMul, Int.reduceNeg, Int.reduceLT, Int.reduceLE, Int.reduceEq, Int.reduceToNat, reduceCtorEq, reduceIte, Nat.zero_add, Nat.add_zero, *]
  intros
  refine LOOP_list columns (fun i s => ∃ a b c, s = [a, b, c, .sc (.int .i64 i)]) ⟨_, _, _, rfl⟩ ?_ ?_
  · rintro i x K s' n' hx hi hi' hn ⟨a, b, c, rfl⟩ hK
    have HK := Lib.hid hK; clear hK
    simp (maxSteps := 1000000) (disch := omega) only [lb_law06_Alike2, aEqs_C, go_sem, wrapI, wrapB, upd_is, upd_not, Nat.reduceAdd, Nat.reduceSub, Nat.reduceMul, Nat.reduceLeDiff, Nat.reduceEqDiff, Int.reduceAdd, Int.reduceSub, Int.reduceMul, Int.reduceNeg, Int.reduceLT, Int.reduceLE, Int.reduceEq, Int.reduceToNat, reduceCtorEq, reduceIte, Nat.zero_add, Nat.add_zero, *]
    intros
    simp (maxSteps := 1000000) (disch := omega) only [go_sem, wrapI, wrapB, upd_is, upd_not, Nat.reduceAdd, Nat.reduceSub, Nat.reduceMul, Nat.reduceLeDiff, Nat.reduceEqDiff, Int.reduceAdd, Int.reduceSub, Int.reduceMul, Int.reduceNeg, Int.reduceLT, Int.reduceLE, Int.reduceEq, Int.reduceToNat, reduceCtorEq, reduceIte, Nat.zero_add, Nat.add_zero, *]
    exact HK.out _ _ (by omega) ⟨_, _, _, rfl⟩
  · rintro K s' n' hn ⟨a, b, c, rfl⟩
    simp (maxSteps := 1000000) (disch := omega) only [lb_law06_Alike2, Int.lt_irrefl, go_sem, wrapI, wrapB, upd_is, upd_not, Nat.reduceAdd, Nat.reduceSub, Nat.reduceMul, Nat.reduceLeDiff, Nat.reduceEqDiff, Int.reduceAdd, Int.reduceSub, Int.reduceMul, Int.reduceNeg, Int.reduceLT, Int.reduceLE, Int.reduceEq, Int.reduceToNat, reduceCtorEq, reduceIte, Nat.zero_add, Nat.add_zero, *]
    intros
    refine LOOP_list indexes (fun i s => ∃ a b c, s = [a, b, c, .sc (.int .i64 i)]) ⟨_, _, _, rfl⟩ ?_ ?_
    · rintro i x K s' n' hx hi hi' hn ⟨a, b, c, rfl⟩ hK
      have HK := Lib.hid hK; clear hK
      simp (maxSteps := 1000000) (disch := omega) only [lb_law06_Alike1, aEqs_X, go_sem, wrapI, wrapB, upd_is, upd_not, Nat.reduceAdd, Nat.reduceSub, Nat.reduceMul, Nat.reduceLeDiff, Nat.reduceEqDiff, Int.reduceAdd, Int.reduceSub, Int.reduceMul, Int.reduceNeg, Int.reduceLT, Int.reduceLE, Int.reduceEq, Int.reduceToNat, reduceCtorEq, reduceIte, Nat.zero_add, Nat.add_zero, *]
      intros
      simp (maxSteps := 1000000) (disch := omega) only [go_sem, wrapI, wrapB, upd_is, upd_not, Nat.reduceAdd, Nat.reduceSub, Nat.reduceMul, Nat.reduceLeDiff, Nat.reduceEqDiff, Int.reduceAdd, Int.reduceSub, Int.reduceMul, Int.reduceNeg, Int.reduceLT, Int.reduceLE, Int.reduceEq, Int.reduceToNat, reduceCtorEq, reduceIte, Nat.zero_add, Nat.add_zero, *]
      exact HK.out _ _ (by omega) ⟨_, _, _, rfl⟩
    · rintro K s' n' hn ⟨a, b, c, rfl⟩
      simp (maxSteps := 1000000) (disch := omega) only [lb_law06_Alike1, Int.lt_irrefl, go_sem, wrapI, wrapB, upd_is, upd_not, Nat.reduceAdd, Nat.reduceSub, Nat.reduceMul, Nat.reduceLeDiff, Nat.reduceEqDiff, Int.reduceAdd, Int.reduceSub, Int.reduceMul, Int.reduceNeg, Int.reduceLT, Int.reduceLE, Int.reduceEq, Int.reduceToNat, reduceCtorEq, reduceIte, Nat.zero_add, Nat.add_zero, *]
      intros
      rw [← HR.out]; exact RC_ret rfl rfl
end Go.Proofs.Ytlhnncmflnjinaa
