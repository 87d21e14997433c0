/- Packed by a program of this repo: Ca. -/
import Derived.Test.YtodoejfkjimeaaaDoorKEEn
import Derived.Test.YtodoejfkjimeaaaDoorKESh7
set_option linter.unusedSimpArgs false
set_option linter.unusedVariables false
set_option maxRecDepth 100000
namespace Go.Proofs.YtodoejfkjimeaaaDoor
open Go Go.RowKit Am

theorem syneed_con (b : Bool) (n : Int) : Con Tryd.prog 62 [.sc (.bool b), .sc (.int .i64 n)] (cond b (.ret (.tp [])) (.pan (.iface 28 (.int .i64 n)))) := by
  refine con_of (by_syntax_need ?_)
  cases b
  · simp only [sh_syntax_need, go_sem]
    exact RC_pan rfl
  · simp only [sh_syntax_need, go_sem]
    exact RC_ret rfl rfl
/-- how many an op has -/
def argsN (op : Int) : Int × Bool :=
  if op = 0 ∨ op = 1 ∨ op = 18 then (0, true) else if op = 2 ∨ op = 3 ∨ op = 16 ∨ op = 17 ∨ op = 19 ∨ op = 20 ∨ op = 21 ∨ op = 22 then (1, true) else (2, decide (4 ≤ op) && decide (op < 16))
theorem args_con (op : Int) : Con Tryd.prog 104 [.sc (.int .i64 op)] (.ret (.tp [.sc (.int .i64 (argsN op).1), .sc (.bool (argsN op).2)])) := by
  refine con_of (by_syntax_Args ?_)
  simp only [sh_syntax_Args, go_sem]
  (repeat' first | contradiction | simp (contextual := true) (maxSteps := 1000000) (disch := omega) only [go_sem, wrapI, wrapB, upd_is, upd_not, Nat.reduceAdd, Nat.reduceSub, Nat.reduceMul, Nat.reduceLeDiff, Nat.reduceEqDiff, Int.reduceAdd, Int.reduceSub, Int.reduceMul, Int.reduceNeg, Int.reduceLT, Int.reduceLE, Int.reduceEq, Int.reduceToNat, reduceCtorEq, reduceIte, Nat.zero_add, Nat.add_zero, *] | intro _ | refine And.intro ?_ ?_ | simp only [COND_bif, COND_bool, guardP_if, guardK_if, guardD_if, onEnd_cond])
  all_goals exact RC_ret rfl (by simp [argsN, *])
/-- may a value be? -/
def valOk (kind n : Int) (text : Tx) : Bool :=
  if kind = 0 then decide (n = 0) && decide (text = []) else if kind = 1 then decide (text = []) else if kind = 2 then decide (text = []) && decide (IntKind.u64.wrap n ≤ 1) else if kind = 3 then decide (n = 0) && decide ((text.length : Int) ≤ 64) else false
theorem valCheck_con (kind n : Int) (text : Tx) : Con Tryd.prog 105 [.ag [.sc (.int .i64 kind), .sc (.int .i64 n), .s text]] (.ret (.sc (.int .i64 (if valOk kind n text then 0 else 9)))) := by
  refine con_of (by_value_Check ?_)
  simp only [sh_value_Check, go_sem]
  (repeat' first | contradiction | simp (contextual := true) (maxSteps := 1000000) (disch := omega) only [go_sem, wrapI, wrapB, upd_is, upd_not, Nat.reduceAdd, Nat.reduceSub, Nat.reduceMul, Nat.reduceLeDiff, Nat.reduceEqDiff, Int.reduceAdd, Int.reduceSub, Int.reduceMul, Int.reduceNeg, Int.reduceLT, Int.reduceLE, Int.reduceEq, Int.reduceToNat, reduceCtorEq, reduceIte, Nat.zero_add, Nat.add_zero, *] | intro _ | refine And.intro ?_ ?_ | simp only [COND_bif, COND_bool, guardP_if, guardK_if, guardD_if, onEnd_cond])
  all_goals exact RC_ret rfl (by first | (simp_all [valOk]; done) | grind [valOk])
/-- texts that are not too long -/
inductive Bd : Ep → Prop
  | mk (op kind n : Int) (text table name : Tx) (args : List Ep) (h1 : text.length ≤ 1048576) (h2 : table.length ≤ 1048576) (h3 : name.length ≤ 1048576) (h4 : args.length ≤ 1048576) (h : ∀ a ∈ args, Bd a) : Bd (.mk op kind n text table name args)
/-- may one be, but for its Args? -/
def partOk (e : Ep) : Bool :=
  (argsN e.op).2 && decide ((argsN e.op).1 = (e.args.length : Int)) &&
  (if e.op = 0 then decide (e.table ++ e.name = []) && valOk e.kind e.n e.text && (decide (¬ e.kind = 1) || decide (0 ≤ e.n))
   else if e.op = 1 then (decide (e.kind = 0) && (decide (e.n = 0) && decide (e.text = []))) && nameL e.name && (decide (e.table = []) || nameL e.table)
   else (decide (e.kind = 0) && (decide (e.n = 0) && decide (e.text = []))) && decide (e.table ++ e.name = []))
set_option maxHeartbeats 4000000 in
theorem part_con (e : Ep) (hb : Bd e) : Con Tryd.prog 63 [.ag (encE e)] (.ret (.sc (.bool (partOk e)))) := by
  refine con_of (by_syntax_part ?_)
  obtain ⟨op, kind, n, text, table, name, args, h1, h2, h3, h4, h⟩ := hb
  rw [encE_eq]
  have hadd : table.length + name.length ≤ 9223372036854775807 := by omega
  simp (contextual := true) (maxSteps := 1000000) (disch := omega) only [sh_syntax_part, Ep.op, Ep.kind, Ep.n, Ep.text, Ep.table, Ep.name, Ep.args, go_sem, wrapI, wrapB, upd_is, upd_not, Nat.reduceAdd, Nat.reduceSub, Nat.reduceMul, Nat.reduceLeDiff, Nat.reduceEqDiff, Int.reduceAdd, Int.reduceSub, Int.reduceMul, Int.reduceNeg, Int.reduceLT, Int.reduceLE, Int.reduceEq, Int.reduceToNat, reduceCtorEq, reduceIte, Nat.zero_add, Nat.add_zero, *]
  refine CALL_con0 (args_con _) rfl ?_
  (repeat' first | contradiction | simp (contextual := true) (maxSteps := 1000000) (disch := omega) only [go_sem, wrapI, wrapB, upd_is, upd_not, Nat.reduceAdd, Nat.reduceSub, Nat.reduceMul, Nat.reduceLeDiff, Nat.reduceEqDiff, Int.reduceAdd, Int.reduceSub, Int.reduceMul, Int.reduceNeg, Int.reduceLT, Int.reduceLE, Int.reduceEq, Int.reduceToNat, reduceCtorEq, reduceIte, Nat.zero_add, Nat.add_zero, *] | intro _ | refine And.intro ?_ ?_ | refine CALL_con0 (valCheck_con _ _ _) rfl ?_ | refine CALL_con0 (name_con _ (by omega)) rfl ?_ | simp only [COND_bif, COND_bool, guardP_if, guardK_if, guardD_if, onEnd_cond])
  all_goals first
    | exact RC_ret rfl (by first | (simp_all [partOk, Ep.op, Ep.kind, Ep.n, Ep.text, Ep.table, Ep.name, Ep.args]; done) | grind [partOk, Ep.op, Ep.kind, Ep.n, Ep.text, Ep.table, Ep.name, Ep.args])
end Go.Proofs.YtodoejfkjimeaaaDoor
