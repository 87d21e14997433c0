/- law07.alive. -/
import Derived.Test.YtlhnncmflnjinaaDe
set_option linter.unusedSimpArgs false
set_option linter.unusedVariables false
set_option maxRecDepth 100000
namespace Go.Proofs.Ytlhnncmflnjinaa
open Go Go.RowKit Am

def alT : Tb := ⟨[116], [⟨[97], 2, false⟩, ⟨[98], 1, false⟩], 0, []⟩
def al1 : Ep := .mk 4 0 0 [] [] [] [.mk 1 0 0 [] [] [97] [], .mk 0 1 1 [] [] [] []]
def al2 : Ep := .mk 4 0 0 [] [] [] [.mk 1 0 0 [] [] [98] [], .mk 0 1 1 [] [] [] []]
def al3 : Ep := .mk 4 0 0 [] [] [] [.mk 1 1 1 [] [] [] [], .mk 0 1 1 [] [] [] []]
theorem al1_is : checkE [alT] al1 false = .error 81 := by kernel_rfl
theorem al2_is : checkE [alT] al2 false = .ok (al3, 1) := by kernel_rfl
theorem al_bd (x : Tx) (hx : x.length ≤ 1048576) : Bd (.mk 4 0 0 [] [] [] [.mk 1 0 0 [] [] x [], .mk 0 1 1 [] [] [] []]) := by
  refine .mk _ _ _ _ _ _ _ (by decide) (by decide) (by decide) (by simp) (fun a ha => ?_)
  simp only [List.mem_cons, List.not_mem_nil, or_false] at ha
  rcases ha with rfl | rfl
  · exact .mk _ _ _ _ _ _ _ (by decide) (by decide) hx (by decide) (fun a ha => by cases ha)
  · exact .mk _ _ _ _ _ _ _ (by decide) (by decide) (by decide) (by decide) (fun a ha => by cases ha)
theorem alT_bd : ∀ t ∈ [alT], t.columns.length ≤ 1048576 := by
  intro t ht
  simp only [List.mem_cons, List.not_mem_nil, or_false] at ht
  subst ht; decide
set_option maxHeartbeats 4000000 in
theorem alive_con : Con Try.prog 19 [] (.ret (.sc (.bool true))) := by
  refine con_of (by_law07_alive ?_)
  generalize hR : RC _ = R
  have HR := Lib.hid hR; clear hR
  have h1 := checkE_con [alT] alT_bd al1 (al_bd [97] (by decide)) false
  have h2 := checkE_con [alT] alT_bd al2 (al_bd [98] (by decide)) false
  rw [al1_is] at h1
  rw [al2_is] at h2
  have H1 := Lib.hid h1; clear h1
  have H2 := Lib.hid h2; clear h2
  simp (maxSteps := 1000000) (disch := omega) only [sh_law07_alive, go_sem, wrapI, wrapB, upd_is, upd_not, Nat.reduceAdd, Nat.reduceSub, Nat.reduceMul, Nat.reduceLeDiff, Nat.reduceEqDiff, Int.reduceAdd, Int.reduceSub, Int.reduceMul, Int.reduceNeg, Int.reduceLT, Int.reduceLE, Int.reduceEq, Int.reduceToNat, reduceCtorEq, reduceIte, Nat.zero_add, Nat.add_zero, *]
  refine CALL_con (I := [80, 96]) H1.out rfl ?_
  simp (maxSteps := 1000000) (disch := omega) only [tripEnd, wrOf, scal, Am.frz, Ob.frz, go_sem, wrapI, wrapB, upd_is, upd_not, Nat.reduceAdd, Nat.reduceSub, Nat.reduceMul, Nat.reduceLeDiff, Nat.reduceEqDiff, Int.reduceAdd, Int.reduceSub, Int.reduceMul, Int.reduceNeg, Int.reduceLT, Int.reduceLE, Int.reduceEq, Int.reduceToNat, reduceCtorEq, reduceIte, Nat.zero_add, Nat.add_zero, *]
  refine CALL_con (I := [144, 160]) H2.out rfl ?_
  simp (maxSteps := 1000000) (disch := omega) only [tripEnd, wrOf, scal, Am.frz, Ob.frz, al3, encE_eq, Ep.op, Ep.args, Ep.kind, Ep.n, Ep.text, Ep.table, Ep.name, go_sem, wrapI, wrapB, upd_is, upd_not, Nat.reduceAdd, Nat.reduceSub, Nat.reduceMul, Nat.reduceLeDiff, Nat.reduceEqDiff, Int.reduceAdd, Int.reduceSub, Int.reduceMul, Int.reduceNeg, Int.reduceLT, Int.reduceLE, Int.reduceEq, Int.reduceToNat, reduceCtorEq, reduceIte, Nat.zero_add, Nat.add_zero, *]
  refine CALL_con0 (num_con _) rfl ?_
  simp (maxSteps := 1000000) (disch := omega) only [go_sem, wrapI, wrapB, upd_is, upd_not, Nat.reduceAdd, Nat.reduceSub, Nat.reduceMul, Nat.reduceLeDiff, Nat.reduceEqDiff, Int.reduceAdd, Int.reduceSub, Int.reduceMul, Int.reduceNeg, Int.reduceLT, Int.reduceLE, Int.reduceEq, Int.reduceToNat, reduceCtorEq, reduceIte, Nat.zero_add, Nat.add_zero, *]
  refine CALL_con0 (num_con _) rfl ?_
  simp (maxSteps := 1000000) (disch := omega) only [encE_eq, Ep.op, Ep.args, Ep.kind, Ep.n, Ep.text, Ep.table, Ep.name, Int.cast_ofNat_Int, go_sem, wrapI, wrapB, upd_is, upd_not, Nat.reduceAdd, Nat.reduceSub, Nat.reduceMul, Nat.reduceLeDiff, Nat.reduceEqDiff, Int.reduceAdd, Int.reduceSub, Int.reduceMul, Int.reduceNeg, Int.reduceLT, Int.reduceLE, Int.reduceEq, Int.reduceToNat, reduceCtorEq, reduceIte, Nat.zero_add, Nat.add_zero, *]
  rw [← HR.out]; exact RC_ret rfl rfl
end Go.Proofs.Ytlhnncmflnjinaa
