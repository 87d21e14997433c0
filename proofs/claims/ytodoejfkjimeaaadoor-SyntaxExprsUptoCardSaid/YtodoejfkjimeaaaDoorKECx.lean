/- Packed by a program of this repo: Cx. -/
import Derived.Test.YtodoejfkjimeaaaDoorKECw
set_option linter.unusedSimpArgs false
set_option linter.unusedVariables false
set_option maxRecDepth 100000
namespace Go.Proofs.YtodoejfkjimeaaaDoor
open Go Go.RowKit Am

abbrev eIf (n : Int) : Value := .iface 28 (.int .i64 n)
theorem syntold_err (n : Int) (i id : Nat) (v : AV) : ConW Tryd.prog 31 [.sc (eIf n), .rf i 1 0 0] [(i, blk1 v)] id (.ret (.tp [])) [(i, some (blk1 (.sc (.int .i64 n))))] := by
  refine conW_less' (by kernel_rfl) (fun σ n' R hp hf hR => by_syntax_told ?_)
  have hi := hp _ (List.mem_singleton.2 rfl)
  simp only [blk1] at hi
  clear hp
  have HR := Lib.hid hR; clear hR
  simp (contextual := true) (maxSteps := 1000000) (disch := omega) only [sh_syntax_told, go_sem, wrapI, wrapB, upd_is, upd_not, Nat.reduceAdd, Nat.reduceSub, Nat.reduceMul, Nat.reduceLeDiff, Nat.reduceEqDiff, Int.reduceAdd, Int.reduceSub, Int.reduceMul, Int.reduceNeg, Int.reduceLT, Int.reduceLE, Int.reduceEq, Int.reduceToNat, reduceCtorEq, reduceIte, Nat.zero_add, Nat.add_zero, *]
  exact HR.out _ _ _ rfl (fun j x h => h)
theorem syntold_nil (i id : Nat) : ConW Tryd.prog 31 [.sc .nilIface, .rf i 1 0 0] [] id (.ret (.tp [])) [] := by
  refine conW_less' (by kernel_rfl) (fun σ n' R hp hf hR => by_syntax_told ?_)
  have HR := Lib.hid hR; clear hR
  simp (contextual := true) (maxSteps := 1000000) (disch := omega) only [sh_syntax_told, go_sem, wrapI, wrapB, upd_is, upd_not, Nat.reduceAdd, Nat.reduceSub, Nat.reduceMul, Nat.reduceLeDiff, Nat.reduceEqDiff, Int.reduceAdd, Int.reduceSub, Int.reduceMul, Int.reduceNeg, Int.reduceLT, Int.reduceLE, Int.reduceEq, Int.reduceToNat, reduceCtorEq, reduceIte, Nat.zero_add, Nat.add_zero, *]
  exact HR.out _ _ _ rfl (fun j x h => h)
theorem syncatch (pv : Option Int) (i : Nat) (v : AV) (σ : Hp) (n : Nat) (hi : σ i = some (blk1 v)) : ConR Tryd.prog 30 [.rf i 1 0 0] σ n (pv.map eIf) (fun σ' _ => σ' i = some (blk1 (match pv with | none => v | some m => .sc (.int .i64 m)))) := by
  refine by_syntax_CheckExpr_c1 ?_
  cases pv with
  | none =>
    simp only [sh_syntax_CheckExpr_c1, Option.map_none, recV]
    refine CALL_conW (syntold_nil i n) (fun p hp => by cases hp) (fun n' hn' => ?_)
    simp only [kc_syntax_CheckExpr_c11, onEnd, applyW]
    exact hi
  | some m =>
    simp only [sh_syntax_CheckExpr_c1, Option.map_some, recV]
    refine CALL_conW (syntold_err m i n v) (fun p hp => by simp only [List.mem_singleton] at hp; subst hp; exact hi) (fun n' hn' => ?_)
    simp only [kc_syntax_CheckExpr_c11, onEnd, applyW]
    exact upd_is rfl
theorem checkExpr_con (e : Ep) (hb : Bd e) : Con Tryd.prog 14 [.ag (encE e)] (.ret (.sc (.int .i64 (walkF 12 e 0).1))) := by
  refine con_of (by_syntax_CheckExpr ?_)
  have HB := Lib.hid hb; clear hb
  simp (contextual := true) (maxSteps := 1000000) (disch := omega) only [sh_syntax_CheckExpr, go_sem, wrapI, wrapB, upd_is, upd_not, Nat.reduceAdd, Nat.reduceSub, Nat.reduceMul, Nat.reduceLeDiff, Nat.reduceEqDiff, Int.reduceAdd, Int.reduceSub, Int.reduceMul, Int.reduceNeg, Int.reduceLT, Int.reduceLE, Int.reduceEq, Int.reduceToNat, reduceCtorEq, reduceIte, Nat.zero_add, Nat.add_zero, *]
  refine CALL_conW (walk_con 12 e 0 32 48 1 (by omega) HB.out (by omega) (by omega)) (fun p hp => by simp only [List.mem_singleton] at hp; subst hp; rfl) (fun n' hn' => ?_)
  generalize hw : walkF 12 e 0 = r
  by_cases h1 : r.1 = 0
  · simp (contextual := true) (maxSteps := 1000000) (disch := omega) only [endW, go_sem, wrapI, wrapB, upd_is, upd_not, Nat.reduceAdd, Nat.reduceSub, Nat.reduceMul, Nat.reduceLeDiff, Nat.reduceEqDiff, Int.reduceAdd, Int.reduceSub, Int.reduceMul, Int.reduceNeg, Int.reduceLT, Int.reduceLE, Int.reduceEq, Int.reduceToNat, reduceCtorEq, reduceIte, Nat.zero_add, Nat.add_zero, *]
    refine DEF_con _ rfl (syncatch none 16 (.sc (.int .i64 0)) _ _ ?_) (fun σ' n2 h2 hn2 => ?_)
    · rw [upd_is rfl]
    · simp only [blk1] at h2
      simp (contextual := true) (maxSteps := 1000000) (disch := omega) only [go_sem, wrapI, wrapB, upd_is, upd_not, Nat.reduceAdd, Nat.reduceSub, Nat.reduceMul, Nat.reduceLeDiff, Nat.reduceEqDiff, Int.reduceAdd, Int.reduceSub, Int.reduceMul, Int.reduceNeg, Int.reduceLT, Int.reduceLE, Int.reduceEq, Int.reduceToNat, reduceCtorEq, reduceIte, Nat.zero_add, Nat.add_zero, *]
      exact RC_ret rfl rfl
  · simp (contextual := true) (maxSteps := 1000000) (disch := omega) only [endW, go_sem, wrapI, wrapB, upd_is, upd_not, Nat.reduceAdd, Nat.reduceSub, Nat.reduceMul, Nat.reduceLeDiff, Nat.reduceEqDiff, Int.reduceAdd, Int.reduceSub, Int.reduceMul, Int.reduceNeg, Int.reduceLT, Int.reduceLE, Int.reduceEq, Int.reduceToNat, reduceCtorEq, reduceIte, Nat.zero_add, Nat.add_zero, *]
    refine DEF_con _ rfl (syncatch (some r.1) 16 (.sc (.int .i64 0)) _ _ ?_) (fun σ' n2 h2 hn2 => ?_)
    · rw [upd_not (by omega), upd_not (by omega), upd_is rfl]
    · simp only [blk1] at h2
      simp (contextual := true) (maxSteps := 1000000) (disch := omega) only [go_sem, wrapI, wrapB, upd_is, upd_not, Nat.reduceAdd, Nat.reduceSub, Nat.reduceMul, Nat.reduceLeDiff, Nat.reduceEqDiff, Int.reduceAdd, Int.reduceSub, Int.reduceMul, Int.reduceNeg, Int.reduceLT, Int.reduceLE, Int.reduceEq, Int.reduceToNat, reduceCtorEq, reduceIte, Nat.zero_add, Nat.add_zero, *]
      exact RC_ret rfl rfl
end Go.Proofs.YtodoejfkjimeaaaDoor
