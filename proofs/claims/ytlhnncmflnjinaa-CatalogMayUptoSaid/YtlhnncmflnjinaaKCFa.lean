/- Packed by a program of this repo: Fa. -/
import Derived.Test.YtlhnncmflnjinaaKCRw
import Derived.Test.YtlhnncmflnjinaaKCDe
import Derived.Test.YtlhnncmflnjinaaKCSh9
set_option linter.unusedSimpArgs false
set_option linter.unusedVariables false
set_option maxRecDepth 100000
namespace Go.Proofs.Ytlhnncmflnjinaa
open Go Go.RowKit Am

def cmpI (a b : Int) : Int := if a < b then -1 else if b < a then 1 else 0
def cmpS (a b : Tx) : Int := if Op.bytesLess a b = true then -1 else if a = b then 0 else 1
theorem nanS_con (a : Tx) : Con Try.prog 154 [.s a] (.ret (.sc (.bool false))) := by
  refine con_of (by_cmp_isNaN_string ?_)
  simp (maxSteps := 1000000) (disch := omega) only [sh_cmp_isNaN_string, decide_true, go_sem, wrapI, wrapB, upd_is, upd_not, Nat.reduceAdd, Nat.reduceSub, Nat.reduceMul, Nat.reduceLeDiff, Nat.reduceEqDiff, Int.reduceAdd, Int.reduceSub, Int.reduceMul, Int.reduceNeg, Int.reduceLT, Int.reduceLE, Int.reduceEq, Int.reduceToNat, reduceCtorEq, reduceIte, Nat.zero_add, Nat.add_zero, *]
  exact RC_ret rfl rfl
theorem cmpS_con (a b : Tx) : Con Try.prog 112 [.s a, .s b] (.ret (.sc (.int .i64 (cmpS a b)))) := by
  refine con_of (by_cmp_Compare_string ?_)
  generalize hR : RC _ = R
  have HR := Lib.hid hR; clear hR
  simp (maxSteps := 1000000) (disch := omega) only [sh_cmp_Compare_string, go_sem, wrapI, wrapB, upd_is, upd_not, Nat.reduceAdd, Nat.reduceSub, Nat.reduceMul, Nat.reduceLeDiff, Nat.reduceEqDiff, Int.reduceAdd, Int.reduceSub, Int.reduceMul, Int.reduceNeg, Int.reduceLT, Int.reduceLE, Int.reduceEq, Int.reduceToNat, reduceCtorEq, reduceIte, Nat.zero_add, Nat.add_zero, *]
  refine CALL_con0 (nanS_con a) rfl ?_
  simp (maxSteps := 1000000) (disch := omega) only [go_sem, wrapI, wrapB, upd_is, upd_not, Nat.reduceAdd, Nat.reduceSub, Nat.reduceMul, Nat.reduceLeDiff, Nat.reduceEqDiff, Int.reduceAdd, Int.reduceSub, Int.reduceMul, Int.reduceNeg, Int.reduceLT, Int.reduceLE, Int.reduceEq, Int.reduceToNat, reduceCtorEq, reduceIte, Nat.zero_add, Nat.add_zero, *]
  refine CALL_con0 (nanS_con b) rfl ?_
  cases h1 : Op.bytesLess a b with
  | true =>
    simp (maxSteps := 1000000) (disch := omega) only [go_sem, wrapI, wrapB, upd_is, upd_not, Nat.reduceAdd, Nat.reduceSub, Nat.reduceMul, Nat.reduceLeDiff, Nat.reduceEqDiff, Int.reduceAdd, Int.reduceSub, Int.reduceMul, Int.reduceNeg, Int.reduceLT, Int.reduceLE, Int.reduceEq, Int.reduceToNat, reduceCtorEq, reduceIte, Nat.zero_add, Nat.add_zero, *]
    rw [← HR.out]; exact RC_ret rfl (by rw [cmpS, if_pos h1])
  | false =>
    by_cases h2 : a = b
    · have h3 : (a == b) = true := by simpa using h2
      have H2 := Lib.hid h2; clear h2
      simp (maxSteps := 1000000) (disch := omega) only [Bool.or_true, Bool.false_or, Bool.or_false, go_sem, wrapI, wrapB, upd_is, upd_not, Nat.reduceAdd, Nat.reduceSub, Nat.reduceMul, Nat.reduceLeDiff, Nat.reduceEqDiff, Int.reduceAdd, Int.reduceSub, Int.reduceMul, Int.reduceNeg, Int.reduceLT, Int.reduceLE, Int.reduceEq, Int.reduceToNat, reduceCtorEq, reduceIte, Nat.zero_add, Nat.add_zero, *]
      rw [← HR.out]; exact RC_ret rfl (by rw [cmpS, if_neg (by simp [h1]), if_pos H2.out])
    · have h3 : (a == b) = false := by simpa using h2
      have H2 := Lib.hid h2; clear h2
      simp (maxSteps := 1000000) (disch := omega) only [Bool.or_true, Bool.false_or, Bool.or_false, go_sem, wrapI, wrapB, upd_is, upd_not, Nat.reduceAdd, Nat.reduceSub, Nat.reduceMul, Nat.reduceLeDiff, Nat.reduceEqDiff, Int.reduceAdd, Int.reduceSub, Int.reduceMul, Int.reduceNeg, Int.reduceLT, Int.reduceLE, Int.reduceEq, Int.reduceToNat, reduceCtorEq, reduceIte, Nat.zero_add, Nat.add_zero, *]
      rw [← HR.out]; exact RC_ret rfl (by rw [cmpS, if_neg (by simp [h1]), if_neg H2.out])
/-- which of two values comes first? -/
def orderF (a b : Vl) : Int := if cmpI a.kind b.kind ≠ 0 then cmpI a.kind b.kind else if a.kind = 1 ∨ a.kind = 2 then cmpI a.n b.n else if a.kind = 3 then cmpS a.text b.text else 0
/-- may a value stand in a column? -/
def fitOne (c : Cl) (v : Vl) : Int := if valOk v.kind v.n v.text = false then 9 else if v.kind = 0 ∧ c.notNull = true then 86 else if v.kind ≠ 0 ∧ v.kind ≠ c.kind then 81 else 0
def fitsL : List Cl → List Vl → Int
  | c :: cs, v :: vs => if fitOne c v ≠ 0 then fitOne c v else fitsL cs vs
  | _, _ => 0
def fitsF (cs : List Cl) (row : List Vl) : Int := if row.length ≠ cs.length then 3 else fitsL cs row
theorem encV_len (v : Vl) : (encV v).length = 3 := rfl
theorem encV_take (v : Vl) : (encV v).take 3 = encV v := rfl
theorem encV_drop (v : Vl) : (encV v).drop 3 = [] := rfl
theorem encV_leaf (v : Vl) : (encV v).all leafok = true := rfl
theorem encV_clo (v : Vl) : (encV v).all clo = true := rfl
theorem encV_brw (σ : Hp) (d : Nat) (v : Vl) : brwL σ d (encV v) = some (encV v, []) := by
  simp only [brwL_cons, brwL_nil, brw_sc, encV, brw_s, List.append_nil]
attribute [go_sem] encV_len encV_take encV_drop encV_leaf encV_clo encV_brw
end Go.Proofs.Ytlhnncmflnjinaa
