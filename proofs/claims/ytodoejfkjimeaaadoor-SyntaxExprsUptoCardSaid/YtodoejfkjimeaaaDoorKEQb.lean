/- Packed by a program of this repo: Qb. -/
import Derived.Test.YtodoejfkjimeaaaDoorKEQa
set_option linter.unusedSimpArgs false
set_option linter.unusedVariables false
set_option maxRecDepth 100000
namespace Go.Proofs.YtodoejfkjimeaaaDoor
open Go Go.RowKit Am
attribute [-go_sem] guardP_if guardK_if guardD_if COND_bool
attribute [local go_sem low] guardP_if guardK_if guardD_if COND_bool

structure LBd (l : List Ep) : Prop where
  len : l.length ≤ 1048576
  bd : ∀ e ∈ l, Bd e
structure SBd (x : Sm) : Prop where
  table : x.table.length ≤ 1048576
  key : x.key.length ≤ 1048576
  index : x.index.length ≤ 1048576
  join : x.join.length ≤ 1048576
  cols : x.columns.length ≤ 1048576
  col : ∀ c ∈ x.columns, c.name.length ≤ 1048576
  rows : x.rows.length ≤ 1048576
  row : ∀ l ∈ x.rows, LBd l
  sets : x.sets.length ≤ 1048576
  set : ∀ s ∈ x.sets, s.name.length ≤ 1048576 ∧ Bd s.ex
  items : LBd x.items
  on : LBd x.on
  where_ : LBd x.where_
  group : LBd x.group
  order : x.order.length ≤ 1048576
def namedF (s : Tx) (asked : Bool) : Bool := if asked then nameL s else decide (s = [])
def countF (n most : Int) (asked : Bool) (least : Int) : Bool := if asked then decide (least ≤ n) && decide (n ≤ most) else decide (n = 0)
def colBad (c : Cl) : Bool := !nameL c.name || decide (c.kind < 1) || decide (3 < c.kind)
def rowBad (l : List Ep) : Bool := decide ((l.length : Int) < 1) || decide (8 < (l.length : Int))
def setBad (s : Se) : Bool := !nameL s.name
def ordBad (o : Od) : Bool := decide (o.n < 1) || decide (16 < o.n)
theorem named_con (s : Tx) (asked : Bool) (hs : s.length ≤ 1048576) : Con Tryd.prog 89 [.s s, .sc (.bool asked)] (.ret (.sc (.bool (namedF s asked)))) := by
  refine con_of (by_syntax_named ?_)
  cases asked
  · simp (maxSteps := 1000000) (disch := omega) only [sh_syntax_named, go_sem, wrapI, wrapB, upd_is, upd_not, Nat.reduceAdd, Nat.reduceSub, Nat.reduceMul, Nat.reduceLeDiff, Nat.reduceEqDiff, Int.reduceAdd, Int.reduceSub, Int.reduceMul, Int.reduceNeg, Int.reduceLT, Int.reduceLE, Int.reduceEq, Int.reduceToNat, reduceCtorEq, reduceIte, Nat.zero_add, Nat.add_zero, *]
    exact RC_ret rfl rfl
  · simp (maxSteps := 1000000) (disch := omega) only [sh_syntax_named, go_sem, wrapI, wrapB, upd_is, upd_not, Nat.reduceAdd, Nat.reduceSub, Nat.reduceMul, Nat.reduceLeDiff, Nat.reduceEqDiff, Int.reduceAdd, Int.reduceSub, Int.reduceMul, Int.reduceNeg, Int.reduceLT, Int.reduceLE, Int.reduceEq, Int.reduceToNat, reduceCtorEq, reduceIte, Nat.zero_add, Nat.add_zero, *]
    refine CALL_con0 (name_con s (by omega)) rfl ?_
    simp (maxSteps := 1000000) (disch := omega) only [go_sem, wrapI, wrapB, upd_is, upd_not, Nat.reduceAdd, Nat.reduceSub, Nat.reduceMul, Nat.reduceLeDiff, Nat.reduceEqDiff, Int.reduceAdd, Int.reduceSub, Int.reduceMul, Int.reduceNeg, Int.reduceLT, Int.reduceLE, Int.reduceEq, Int.reduceToNat, reduceCtorEq, reduceIte, Nat.zero_add, Nat.add_zero, *]
    exact RC_ret rfl rfl
theorem count_con (n most least : Int) (asked : Bool) : Con Tryd.prog 90 [.sc (.int .i64 n), .sc (.int .i64 most), .sc (.bool asked), .sc (.int .i64 least)] (.ret (.sc (.bool (countF n most asked least)))) := by
  refine con_of (by_syntax_count ?_)
  cases asked
  · simp (maxSteps := 1000000) (disch := omega) only [sh_syntax_count, go_sem, wrapI, wrapB, upd_is, upd_not, Nat.reduceAdd, Nat.reduceSub, Nat.reduceMul, Nat.reduceLeDiff, Nat.reduceEqDiff, Int.reduceAdd, Int.reduceSub, Int.reduceMul, Int.reduceNeg, Int.reduceLT, Int.reduceLE, Int.reduceEq, Int.reduceToNat, reduceCtorEq, reduceIte, Nat.zero_add, Nat.add_zero, *]
    exact RC_ret rfl rfl
  · by_cases h : least ≤ n
    · simp (maxSteps := 1000000) (disch := omega) only [sh_syntax_count, go_sem, wrapI, wrapB, upd_is, upd_not, Nat.reduceAdd, Nat.reduceSub, Nat.reduceMul, Nat.reduceLeDiff, Nat.reduceEqDiff, Int.reduceAdd, Int.reduceSub, Int.reduceMul, Int.reduceNeg, Int.reduceLT, Int.reduceLE, Int.reduceEq, Int.reduceToNat, reduceCtorEq, reduceIte, Nat.zero_add, Nat.add_zero, *]
      exact RC_ret rfl (by simp [countF, h])
    · simp (maxSteps := 1000000) (disch := omega) only [sh_syntax_count, go_sem, wrapI, wrapB, upd_is, upd_not, Nat.reduceAdd, Nat.reduceSub, Nat.reduceMul, Nat.reduceLeDiff, Nat.reduceEqDiff, Int.reduceAdd, Int.reduceSub, Int.reduceMul, Int.reduceNeg, Int.reduceLT, Int.reduceLE, Int.reduceEq, Int.reduceToNat, reduceCtorEq, reduceIte, Nat.zero_add, Nat.add_zero, *]
      exact RC_ret rfl (by simp [countF, h])
theorem colBad_con (c : Cl) (hc : c.name.length ≤ 1048576) : Con Tryd.prog 92 [.ag (encC c)] (.ret (.sc (.bool (colBad c)))) := by
  refine con_of (by_syntax_shape_c1 ?_)
  have HN := Lib.hid (name_con c.name (by omega)); clear hc
  simp (maxSteps := 1000000) (disch := omega) only [sh_syntax_shape_c1, encC, go_sem, wrapI, wrapB, upd_is, upd_not, Nat.reduceAdd, Nat.reduceSub, Nat.reduceMul, Nat.reduceLeDiff, Nat.reduceEqDiff, Int.reduceAdd, Int.reduceSub, Int.reduceMul, Int.reduceNeg, Int.reduceLT, Int.reduceLE, Int.reduceEq, Int.reduceToNat, reduceCtorEq, reduceIte, Nat.zero_add, Nat.add_zero, *]
  refine CALL_con0 HN.out rfl ?_
  cases h1 : nameL c.name
  · simp (maxSteps := 1000000) (disch := omega) only [go_sem, wrapI, wrapB, upd_is, upd_not, Nat.reduceAdd, Nat.reduceSub, Nat.reduceMul, Nat.reduceLeDiff, Nat.reduceEqDiff, Int.reduceAdd, Int.reduceSub, Int.reduceMul, Int.reduceNeg, Int.reduceLT, Int.reduceLE, Int.reduceEq, Int.reduceToNat, reduceCtorEq, reduceIte, Nat.zero_add, Nat.add_zero, *]
    exact RC_ret rfl (by simp [colBad, h1])
  · by_cases h2 : c.kind < 1
    · simp (maxSteps := 1000000) (disch := omega) only [go_sem, wrapI, wrapB, upd_is, upd_not, Nat.reduceAdd, Nat.reduceSub, Nat.reduceMul, Nat.reduceLeDiff, Nat.reduceEqDiff, Int.reduceAdd, Int.reduceSub, Int.reduceMul, Int.reduceNeg, Int.reduceLT, Int.reduceLE, Int.reduceEq, Int.reduceToNat, reduceCtorEq, reduceIte, Nat.zero_add, Nat.add_zero, *]
      exact RC_ret rfl (by simp [colBad, h1, h2])
    · simp (maxSteps := 1000000) (disch := omega) only [go_sem, wrapI, wrapB, upd_is, upd_not, Nat.reduceAdd, Nat.reduceSub, Nat.reduceMul, Nat.reduceLeDiff, Nat.reduceEqDiff, Int.reduceAdd, Int.reduceSub, Int.reduceMul, Int.reduceNeg, Int.reduceLT, Int.reduceLE, Int.reduceEq, Int.reduceToNat, reduceCtorEq, reduceIte, Nat.zero_add, Nat.add_zero, *]
      exact RC_ret rfl (by simp [colBad, h1, h2])
theorem rowBad_con (l : List Ep) (hl : l.length ≤ 1048576) : Con Tryd.prog 94 [.tr (l.map encE)] (.ret (.sc (.bool (rowBad l)))) := by
  refine con_of (by_syntax_shape_c2 ?_)
  by_cases h2 : (l.length : Int) < 1
  · simp (maxSteps := 1000000) (disch := omega) only [sh_syntax_shape_c2, go_sem, wrapI, wrapB, upd_is, upd_not, Nat.reduceAdd, Nat.reduceSub, Nat.reduceMul, Nat.reduceLeDiff, Nat.reduceEqDiff, Int.reduceAdd, Int.reduceSub, Int.reduceMul, Int.reduceNeg, Int.reduceLT, Int.reduceLE, Int.reduceEq, Int.reduceToNat, reduceCtorEq, reduceIte, Nat.zero_add, Nat.add_zero, *]
    intro _
    exact RC_ret rfl (by simp [rowBad, h2])
  · simp (maxSteps := 1000000) (disch := omega) only [sh_syntax_shape_c2, go_sem, wrapI, wrapB, upd_is, upd_not, Nat.reduceAdd, Nat.reduceSub, Nat.reduceMul, Nat.reduceLeDiff, Nat.reduceEqDiff, Int.reduceAdd, Int.reduceSub, Int.reduceMul, Int.reduceNeg, Int.reduceLT, Int.reduceLE, Int.reduceEq, Int.reduceToNat, reduceCtorEq, reduceIte, Nat.zero_add, Nat.add_zero, *]
    intro _
    exact RC_ret rfl (by simp [rowBad, h2])
theorem setBad_con (s : Se) (hs : s.name.length ≤ 1048576) : Con Tryd.prog 96 [.ag (encS s)] (.ret (.sc (.bool (setBad s)))) := by
  refine con_of (by_syntax_shape_c3 ?_)
  have HN := Lib.hid (name_con s.name (by omega)); clear hs
  simp (maxSteps := 1000000) (disch := omega) only [sh_syntax_shape_c3, encS, encE_eq, go_sem, wrapI, wrapB, upd_is, upd_not, Nat.reduceAdd, Nat.reduceSub, Nat.reduceMul, Nat.reduceLeDiff, Nat.reduceEqDiff, Int.reduceAdd, Int.reduceSub, Int.reduceMul, Int.reduceNeg, Int.reduceLT, Int.reduceLE, Int.reduceEq, Int.reduceToNat, reduceCtorEq, reduceIte, Nat.zero_add, Nat.add_zero, *]
  refine CALL_con0 HN.out rfl ?_
  simp (maxSteps := 1000000) (disch := omega) only [go_sem, wrapI, wrapB, upd_is, upd_not, Nat.reduceAdd, Nat.reduceSub, Nat.reduceMul, Nat.reduceLeDiff, Nat.reduceEqDiff, Int.reduceAdd, Int.reduceSub, Int.reduceMul, Int.reduceNeg, Int.reduceLT, Int.reduceLE, Int.reduceEq, Int.reduceToNat, reduceCtorEq, reduceIte, Nat.zero_add, Nat.add_zero, *]
  exact RC_ret rfl rfl
theorem ordBad_con (o : Od) : Con Tryd.prog 98 [.ag (encO o)] (.ret (.sc (.bool (ordBad o)))) := by
  refine con_of (by_syntax_shape_c4 ?_)
  by_cases h2 : o.n < 1
  · simp (maxSteps := 1000000) (disch := omega) only [sh_syntax_shape_c4, encO, go_sem, wrapI, wrapB, upd_is, upd_not, Nat.reduceAdd, Nat.reduceSub, Nat.reduceMul, Nat.reduceLeDiff, Nat.reduceEqDiff, Int.reduceAdd, Int.reduceSub, Int.reduceMul, Int.reduceNeg, Int.reduceLT, Int.reduceLE, Int.reduceEq, Int.reduceToNat, reduceCtorEq, reduceIte, Nat.zero_add, Nat.add_zero, *]
    exact RC_ret rfl (by simp [ordBad, h2])
  · simp (maxSteps := 1000000) (disch := omega) only [sh_syntax_shape_c4, encO, go_sem, wrapI, wrapB, upd_is, upd_not, Nat.reduceAdd, Nat.reduceSub, Nat.reduceMul, Nat.reduceLeDiff, Nat.reduceEqDiff, Int.reduceAdd, Int.reduceSub, Int.reduceMul, Int.reduceNeg, Int.reduceLT, Int.reduceLE, Int.reduceEq, Int.reduceToNat, reduceCtorEq, reduceIte, Nat.zero_add, Nat.add_zero, *]
    exact RC_ret rfl (by simp [ordBad, h2])
end Go.Proofs.YtodoejfkjimeaaaDoor
