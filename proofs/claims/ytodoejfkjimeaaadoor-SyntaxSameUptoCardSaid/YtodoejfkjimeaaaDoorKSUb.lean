/- Packed by a program of this repo: Ub Uc. -/
import Derived.Test.YtodoejfkjimeaaaDoorKSSq
set_option linter.unusedSimpArgs false
set_option linter.unusedVariables false
set_option maxRecDepth 100000
namespace Go.Proofs.YtodoejfkjimeaaaDoor
open Go Go.RowKit Am
attribute [-go_sem] guardP_if guardK_if guardD_if COND_bool
attribute [local go_sem low] guardP_if guardK_if guardD_if COND_bool
def namesF (x : Sm) : Bool :=
  namedF x.table (decide (x.kind ≤ 7)) && namedF x.key (decide (x.kind = 1) || decide (x.kind = 2)) && namedF x.index (decide (x.kind = 2)) && (decide (x.join = []) || (decide (x.kind = 7) && nameL x.join))
theorem nm0 : nameL [] = false := rfl
theorem name_ne {s : Tx} (h : nameL s = true) : s ≠ [] := by rintro rfl; cases h
set_option maxHeartbeats 8000000 in
theorem rfNames_con (x : Sm) (hb : SBd x) : Con Tryd.prog 36 [.ag (encSm x)] (.ret (.sc (.bool (namesF x)))) := by
  refine con_of (by_ref04_names ?_)
  generalize hR : RC _ = R
  have HR := Lib.hid hR; clear hR
  have H1 := Lib.hid (rfName_con x.table hb.table)
  have H2 := Lib.hid (rfName_con x.key hb.key)
  have H3 := Lib.hid (rfName_con x.index hb.index)
  have H4 := Lib.hid (rfName_con x.join hb.join)
  have N1 := Lib.hid (name_ne (s := x.table))
  clear hb
  obtain ⟨kind, table, columns, key, index, rows, sets, items, join, on, wh, group, order, limit⟩ := x
  simp only at H1 H2 H3 H4
  have hF : namesF ⟨kind, table, columns, key, index, rows, sets, items, join, on, wh, group, order, limit⟩ = (namedF table (decide (kind ≤ 7)) && namedF key (decide (kind = 1) || decide (kind = 2)) && namedF index (decide (kind = 2)) && (decide (join = []) || (decide (kind = 7) && nameL join))) := rfl
  have HF := Lib.hid hF; clear hF
  have hk : kind = 1 ∨ kind = 2 ∨ kind = 7 ∨ (kind ≤ 7 ∧ ¬ kind = 1 ∧ ¬ kind = 2 ∧ ¬ kind = 7) ∨ 7 < kind := by omega
  rcases hk with rfl | rfl | rfl | ⟨h7, g1, g2, g7⟩ | h7
  · have h_ := trivial
    by_cases htable : table = []
    · simp (maxSteps:=1000000) (disch:=omega) only [sh_ref04_names,encSm,decide_true,decide_false,go_sem,wrapI,wrapB,upd_is,upd_not,Nat.reduceAdd,Nat.reduceSub,Nat.reduceMul,Nat.reduceLeDiff,Nat.reduceEqDiff,Int.reduceAdd,Int.reduceSub,Int.reduceMul,Int.reduceNeg,Int.reduceLT,Int.reduceLE,Int.reduceEq,Int.reduceToNat,reduceCtorEq,reduceIte,Nat.zero_add,Nat.add_zero, *]
      intro n_ hn_
      rw [← HR.out]; exact RC_ret rfl (by rw [HF.out]; simp [namedF, nm0, htable])
    · have htable_ := htable
      by_cases hkey : key = []
      · simp (maxSteps:=1000000) (disch:=omega) only [sh_ref04_names,encSm,decide_true,decide_false,go_sem,wrapI,wrapB,upd_is,upd_not,Nat.reduceAdd,Nat.reduceSub,Nat.reduceMul,Nat.reduceLeDiff,Nat.reduceEqDiff,Int.reduceAdd,Int.reduceSub,Int.reduceMul,Int.reduceNeg,Int.reduceLT,Int.reduceLE,Int.reduceEq,Int.reduceToNat,reduceCtorEq,reduceIte,Nat.zero_add,Nat.add_zero, *]
        intro n_ hn_
        rw [← HR.out]; exact RC_ret rfl (by rw [HF.out]; simp [namedF, nm0, htable, hkey])
      · have hkey_ := hkey
        by_cases hindex : index = []
        · have hindex_ := hindex
          by_cases hjoin : join = []
          · simp (maxSteps:=1000000) (disch:=omega) only [sh_ref04_names,encSm,decide_true,decide_false,go_sem,wrapI,wrapB,upd_is,upd_not,Nat.reduceAdd,Nat.reduceSub,Nat.reduceMul,Nat.reduceLeDiff,Nat.reduceEqDiff,Int.reduceAdd,Int.reduceSub,Int.reduceMul,Int.reduceNeg,Int.reduceLT,Int.reduceLE,Int.reduceEq,Int.reduceToNat,reduceCtorEq,reduceIte,Nat.zero_add,Nat.add_zero, *]
            intro n_ hn_
            have hc := H1.out
            cases hntable : nameL table <;> rw [hntable] at hc
            · refine CALL_con0 hc rfl ?_
              simp (maxSteps:=1000000) (disch:=omega) only [decide_true,decide_false,go_sem,wrapI,wrapB,upd_is,upd_not,Nat.reduceAdd,Nat.reduceSub,Nat.reduceMul,Nat.reduceLeDiff,Nat.reduceEqDiff,Int.reduceAdd,Int.reduceSub,Int.reduceMul,Int.reduceNeg,Int.reduceLT,Int.reduceLE,Int.reduceEq,Int.reduceToNat,reduceCtorEq,reduceIte,Nat.zero_add,Nat.add_zero, *]
              rw [← HR.out]; exact RC_ret rfl (by rw [HF.out]; simp [namedF, nm0, htable, hkey, hindex, hjoin, hntable])
            · refine CALL_con0 hc rfl ?_
              simp (maxSteps:=1000000) (disch:=omega) only [decide_true,decide_false,go_sem,wrapI,wrapB,upd_is,upd_not,Nat.reduceAdd,Nat.reduceSub,Nat.reduceMul,Nat.reduceLeDiff,Nat.reduceEqDiff,Int.reduceAdd,Int.reduceSub,Int.reduceMul,Int.reduceNeg,Int.reduceLT,Int.reduceLE,Int.reduceEq,Int.reduceToNat,reduceCtorEq,reduceIte,Nat.zero_add,Nat.add_zero, *]
              have hc := H2.out
              cases hnkey : nameL key <;> rw [hnkey] at hc
              · refine CALL_con0 hc rfl ?_
                simp (maxSteps:=1000000) (disch:=omega) only [decide_true,decide_false,go_sem,wrapI,wrapB,upd_is,upd_not,Nat.reduceAdd,Nat.reduceSub,Nat.reduceMul,Nat.reduceLeDiff,Nat.reduceEqDiff,Int.reduceAdd,Int.reduceSub,Int.reduceMul,Int.reduceNeg,Int.reduceLT,Int.reduceLE,Int.reduceEq,Int.reduceToNat,reduceCtorEq,reduceIte,Nat.zero_add,Nat.add_zero, *]
                rw [← HR.out]; exact RC_ret rfl (by rw [HF.out]; simp [namedF, nm0, htable, hkey, hindex, hjoin, hntable, hnkey])
              · refine CALL_con0 hc rfl ?_
                simp (maxSteps:=1000000) (disch:=omega) only [decide_true,decide_false,go_sem,wrapI,wrapB,upd_is,upd_not,Nat.reduceAdd,Nat.reduceSub,Nat.reduceMul,Nat.reduceLeDiff,Nat.reduceEqDiff,Int.reduceAdd,Int.reduceSub,Int.reduceMul,Int.reduceNeg,Int.reduceLT,Int.reduceLE,Int.reduceEq,Int.reduceToNat,reduceCtorEq,reduceIte,Nat.zero_add,Nat.add_zero, *]
                rw [← HR.out]; exact RC_ret rfl (by rw [HF.out]; simp [namedF, nm0, htable, hkey, hindex, hjoin, hntable, hnkey])
          · simp (maxSteps:=1000000) (disch:=omega) only [sh_ref04_names,encSm,decide_true,decide_false,go_sem,wrapI,wrapB,upd_is,upd_not,Nat.reduceAdd,Nat.reduceSub,Nat.reduceMul,Nat.reduceLeDiff,Nat.reduceEqDiff,Int.reduceAdd,Int.reduceSub,Int.reduceMul,Int.reduceNeg,Int.reduceLT,Int.reduceLE,Int.reduceEq,Int.reduceToNat,reduceCtorEq,reduceIte,Nat.zero_add,Nat.add_zero, *]
            intro n_ hn_
            have hc := H1.out
            cases hntable : nameL table <;> rw [hntable] at hc
            · refine CALL_con0 hc rfl ?_
              simp (maxSteps:=1000000) (disch:=omega) only [decide_true,decide_false,go_sem,wrapI,wrapB,upd_is,upd_not,Nat.reduceAdd,Nat.reduceSub,Nat.reduceMul,Nat.reduceLeDiff,Nat.reduceEqDiff,Int.reduceAdd,Int.reduceSub,Int.reduceMul,Int.reduceNeg,Int.reduceLT,Int.reduceLE,Int.reduceEq,Int.reduceToNat,reduceCtorEq,reduceIte,Nat.zero_add,Nat.add_zero, *]
              rw [← HR.out]; exact RC_ret rfl (by rw [HF.out]; simp [namedF, nm0, htable, hkey, hindex, hjoin, hntable])
            · refine CALL_con0 hc rfl ?_
              simp (maxSteps:=1000000) (disch:=omega) only [decide_true,decide_false,go_sem,wrapI,wrapB,upd_is,upd_not,Nat.reduceAdd,Nat.reduceSub,Nat.reduceMul,Nat.reduceLeDiff,Nat.reduceEqDiff,Int.reduceAdd,Int.reduceSub,Int.reduceMul,Int.reduceNeg,Int.reduceLT,Int.reduceLE,Int.reduceEq,Int.reduceToNat,reduceCtorEq,reduceIte,Nat.zero_add,Nat.add_zero, *]
              have hc := H2.out
              cases hnkey : nameL key <;> rw [hnkey] at hc
              · refine CALL_con0 hc rfl ?_
                simp (maxSteps:=1000000) (disch:=omega) only [decide_true,decide_false,go_sem,wrapI,wrapB,upd_is,upd_not,Nat.reduceAdd,Nat.reduceSub,Nat.reduceMul,Nat.reduceLeDiff,Nat.reduceEqDiff,Int.reduceAdd,Int.reduceSub,Int.reduceMul,Int.reduceNeg,Int.reduceLT,Int.reduceLE,Int.reduceEq,Int.reduceToNat,reduceCtorEq,reduceIte,Nat.zero_add,Nat.add_zero, *]
                rw [← HR.out]; exact RC_ret rfl (by rw [HF.out]; simp [namedF, nm0, htable, hkey, hindex, hjoin, hntable, hnkey])
              · refine CALL_con0 hc rfl ?_
                simp (maxSteps:=1000000) (disch:=omega) only [decide_true,decide_false,go_sem,wrapI,wrapB,upd_is,upd_not,Nat.reduceAdd,Nat.reduceSub,Nat.reduceMul,Nat.reduceLeDiff,Nat.reduceEqDiff,Int.reduceAdd,Int.reduceSub,Int.reduceMul,Int.reduceNeg,Int.reduceLT,Int.reduceLE,Int.reduceEq,Int.reduceToNat,reduceCtorEq,reduceIte,Nat.zero_add,Nat.add_zero, *]
                rw [← HR.out]; exact RC_ret rfl (by rw [HF.out]; simp [namedF, nm0, htable, hkey, hindex, hjoin, hntable, hnkey])
        · simp (maxSteps:=1000000) (disch:=omega) only [sh_ref04_names,encSm,decide_true,decide_false,go_sem,wrapI,wrapB,upd_is,upd_not,Nat.reduceAdd,Nat.reduceSub,Nat.reduceMul,Nat.reduceLeDiff,Nat.reduceEqDiff,Int.reduceAdd,Int.reduceSub,Int.reduceMul,Int.reduceNeg,Int.reduceLT,Int.reduceLE,Int.reduceEq,Int.reduceToNat,reduceCtorEq,reduceIte,Nat.zero_add,Nat.add_zero, *]
          intro n_ hn_
          rw [← HR.out]; exact RC_ret rfl (by rw [HF.out]; simp [namedF, nm0, htable, hkey, hindex])
  · have h_ := trivial
    by_cases htable : table = []
    · simp (maxSteps:=1000000) (disch:=omega) only [sh_ref04_names,encSm,decide_true,decide_false,go_sem,wrapI,wrapB,upd_is,upd_not,Nat.reduceAdd,Nat.reduceSub,Nat.reduceMul,Nat.reduceLeDiff,Nat.reduceEqDiff,Int.reduceAdd,Int.reduceSub,Int.reduceMul,Int.reduceNeg,Int.reduceLT,Int.reduceLE,Int.reduceEq,Int.reduceToNat,reduceCtorEq,reduceIte,Nat.zero_add,Nat.add_zero, *]
      intro n_ hn_
      rw [← HR.out]; exact RC_ret rfl (by rw [HF.out]; simp [namedF, nm0, htable])
    · have htable_ := htable
      by_cases hkey : key = []
      · simp (maxSteps:=1000000) (disch:=omega) only [sh_ref04_names,encSm,decide_true,decide_false,go_sem,wrapI,wrapB,upd_is,upd_not,Nat.reduceAdd,Nat.reduceSub,Nat.reduceMul,Nat.reduceLeDiff,Nat.reduceEqDiff,Int.reduceAdd,Int.reduceSub,Int.reduceMul,Int.reduceNeg,Int.reduceLT,Int.reduceLE,Int.reduceEq,Int.reduceToNat,reduceCtorEq,reduceIte,Nat.zero_add,Nat.add_zero, *]
        intro n_ hn_
        rw [← HR.out]; exact RC_ret rfl (by rw [HF.out]; simp [namedF, nm0, htable, hkey])
      · have hkey_ := hkey
        by_cases hindex : index = []
        · simp (maxSteps:=1000000) (disch:=omega) only [sh_ref04_names,encSm,decide_true,decide_false,go_sem,wrapI,wrapB,upd_is,upd_not,Nat.reduceAdd,Nat.reduceSub,Nat.reduceMul,Nat.reduceLeDiff,Nat.reduceEqDiff,Int.reduceAdd,Int.reduceSub,Int.reduceMul,Int.reduceNeg,Int.reduceLT,Int.reduceLE,Int.reduceEq,Int.reduceToNat,reduceCtorEq,reduceIte,Nat.zero_add,Nat.add_zero, *]
          intro n_ hn_
          rw [← HR.out]; exact RC_ret rfl (by rw [HF.out]; simp [namedF, nm0, htable, hkey, hindex])
        · have hindex_ := hindex
          by_cases hjoin : join = []
          · simp (maxSteps:=1000000) (disch:=omega) only [sh_ref04_names,encSm,decide_true,decide_false,go_sem,wrapI,wrapB,upd_is,upd_not,Nat.reduceAdd,Nat.reduceSub,Nat.reduceMul,Nat.reduceLeDiff,Nat.reduceEqDiff,Int.reduceAdd,Int.reduceSub,Int.reduceMul,Int.reduceNeg,Int.reduceLT,Int.reduceLE,Int.reduceEq,Int.reduceToNat,reduceCtorEq,reduceIte,Nat.zero_add,Nat.add_zero, *]
            intro n_ hn_
            have hc := H1.out
            cases hntable : nameL table <;> rw [hntable] at hc
            · refine CALL_con0 hc rfl ?_
              simp (maxSteps:=1000000) (disch:=omega) only [decide_true,decide_false,go_sem,wrapI,wrapB,upd_is,upd_not,Nat.reduceAdd,Nat.reduceSub,Nat.reduceMul,Nat.reduceLeDiff,Nat.reduceEqDiff,Int.reduceAdd,Int.reduceSub,Int.reduceMul,Int.reduceNeg,Int.reduceLT,Int.reduceLE,Int.reduceEq,Int.reduceToNat,reduceCtorEq,reduceIte,Nat.zero_add,Nat.add_zero, *]
              rw [← HR.out]; exact RC_ret rfl (by rw [HF.out]; simp [namedF, nm0, htable, hkey, hindex, hjoin, hntable])
            · refine CALL_con0 hc rfl ?_
              simp (maxSteps:=1000000) (disch:=omega) only [decide_true,decide_false,go_sem,wrapI,wrapB,upd_is,upd_not,Nat.reduceAdd,Nat.reduceSub,Nat.reduceMul,Nat.reduceLeDiff,Nat.reduceEqDiff,Int.reduceAdd,Int.reduceSub,Int.reduceMul,Int.reduceNeg,Int.reduceLT,Int.reduceLE,Int.reduceEq,Int.reduceToNat,reduceCtorEq,reduceIte,Nat.zero_add,Nat.add_zero, *]
              have hc := H2.out
              cases hnkey : nameL key <;> rw [hnkey] at hc
              · refine CALL_con0 hc rfl ?_
                simp (maxSteps:=1000000) (disch:=omega) only [decide_true,decide_false,go_sem,wrapI,wrapB,upd_is,upd_not,Nat.reduceAdd,Nat.reduceSub,Nat.reduceMul,Nat.reduceLeDiff,Nat.reduceEqDiff,Int.reduceAdd,Int.reduceSub,Int.reduceMul,Int.reduceNeg,Int.reduceLT,Int.reduceLE,Int.reduceEq,Int.reduceToNat,reduceCtorEq,reduceIte,Nat.zero_add,Nat.add_zero, *]
                rw [← HR.out]; exact RC_ret rfl (by rw [HF.out]; simp [namedF, nm0, htable, hkey, hindex, hjoin, hntable, hnkey])
              · refine CALL_con0 hc rfl ?_
                simp (maxSteps:=1000000) (disch:=omega) only [decide_true,decide_false,go_sem,wrapI,wrapB,upd_is,upd_not,Nat.reduceAdd,Nat.reduceSub,Nat.reduceMul,Nat.reduceLeDiff,Nat.reduceEqDiff,Int.reduceAdd,Int.reduceSub,Int.reduceMul,Int.reduceNeg,Int.reduceLT,Int.reduceLE,Int.reduceEq,Int.reduceToNat,reduceCtorEq,reduceIte,Nat.zero_add,Nat.add_zero, *]
                have hc := H3.out
                cases hnindex : nameL index <;> rw [hnindex] at hc
                · refine CALL_con0 hc rfl ?_
                  simp (maxSteps:=1000000) (disch:=omega) only [decide_true,decide_false,go_sem,wrapI,wrapB,upd_is,upd_not,Nat.reduceAdd,Nat.reduceSub,Nat.reduceMul,Nat.reduceLeDiff,Nat.reduceEqDiff,Int.reduceAdd,Int.reduceSub,Int.reduceMul,Int.reduceNeg,Int.reduceLT,Int.reduceLE,Int.reduceEq,Int.reduceToNat,reduceCtorEq,reduceIte,Nat.zero_add,Nat.add_zero, *]
                  rw [← HR.out]; exact RC_ret rfl (by rw [HF.out]; simp [namedF, nm0, htable, hkey, hindex, hjoin, hntable, hnkey, hnindex])
                · refine CALL_con0 hc rfl ?_
                  simp (maxSteps:=1000000) (disch:=omega) only [decide_true,decide_false,go_sem,wrapI,wrapB,upd_is,upd_not,Nat.reduceAdd,Nat.reduceSub,Nat.reduceMul,Nat.reduceLeDiff,Nat.reduceEqDiff,Int.reduceAdd,Int.reduceSub,Int.reduceMul,Int.reduceNeg,Int.reduceLT,Int.reduceLE,Int.reduceEq,Int.reduceToNat,reduceCtorEq,reduceIte,Nat.zero_add,Nat.add_zero, *]
                  rw [← HR.out]; exact RC_ret rfl (by rw [HF.out]; simp [namedF, nm0, htable, hkey, hindex, hjoin, hntable, hnkey, hnindex])
          · simp (maxSteps:=1000000) (disch:=omega) only [sh_ref04_names,encSm,decide_true,decide_false,go_sem,wrapI,wrapB,upd_is,upd_not,Nat.reduceAdd,Nat.reduceSub,Nat.reduceMul,Nat.reduceLeDiff,Nat.reduceEqDiff,Int.reduceAdd,Int.reduceSub,Int.reduceMul,Int.reduceNeg,Int.reduceLT,Int.reduceLE,Int.reduceEq,Int.reduceToNat,reduceCtorEq,reduceIte,Nat.zero_add,Nat.add_zero, *]
            intro n_ hn_
            have hc := H1.out
            cases hntable : nameL table <;> rw [hntable] at hc
            · refine CALL_con0 hc rfl ?_
              simp (maxSteps:=1000000) (disch:=omega) only [decide_true,decide_false,go_sem,wrapI,wrapB,upd_is,upd_not,Nat.reduceAdd,Nat.reduceSub,Nat.reduceMul,Nat.reduceLeDiff,Nat.reduceEqDiff,Int.reduceAdd,Int.reduceSub,Int.reduceMul,Int.reduceNeg,Int.reduceLT,Int.reduceLE,Int.reduceEq,Int.reduceToNat,reduceCtorEq,reduceIte,Nat.zero_add,Nat.add_zero, *]
              rw [← HR.out]; exact RC_ret rfl (by rw [HF.out]; simp [namedF, nm0, htable, hkey, hindex, hjoin, hntable])
            · refine CALL_con0 hc rfl ?_
              simp (maxSteps:=1000000) (disch:=omega) only [decide_true,decide_false,go_sem,wrapI,wrapB,upd_is,upd_not,Nat.reduceAdd,Nat.reduceSub,Nat.reduceMul,Nat.reduceLeDiff,Nat.reduceEqDiff,Int.reduceAdd,Int.reduceSub,Int.reduceMul,Int.reduceNeg,Int.reduceLT,Int.reduceLE,Int.reduceEq,Int.reduceToNat,reduceCtorEq,reduceIte,Nat.zero_add,Nat.add_zero, *]
              have hc := H2.out
              cases hnkey : nameL key <;> rw [hnkey] at hc
              · refine CALL_con0 hc rfl ?_
                simp (maxSteps:=1000000) (disch:=omega) only [decide_true,decide_false,go_sem,wrapI,wrapB,upd_is,upd_not,Nat.reduceAdd,Nat.reduceSub,Nat.reduceMul,Nat.reduceLeDiff,Nat.reduceEqDiff,Int.reduceAdd,Int.reduceSub,Int.reduceMul,Int.reduceNeg,Int.reduceLT,Int.reduceLE,Int.reduceEq,Int.reduceToNat,reduceCtorEq,reduceIte,Nat.zero_add,Nat.add_zero, *]
                rw [← HR.out]; exact RC_ret rfl (by rw [HF.out]; simp [namedF, nm0, htable, hkey, hindex, hjoin, hntable, hnkey])
              · refine CALL_con0 hc rfl ?_
                simp (maxSteps:=1000000) (disch:=omega) only [decide_true,decide_false,go_sem,wrapI,wrapB,upd_is,upd_not,Nat.reduceAdd,Nat.reduceSub,Nat.reduceMul,Nat.reduceLeDiff,Nat.reduceEqDiff,Int.reduceAdd,Int.reduceSub,Int.reduceMul,Int.reduceNeg,Int.reduceLT,Int.reduceLE,Int.reduceEq,Int.reduceToNat,reduceCtorEq,reduceIte,Nat.zero_add,Nat.add_zero, *]
                have hc := H3.out
                cases hnindex : nameL index <;> rw [hnindex] at hc
                · refine CALL_con0 hc rfl ?_
                  simp (maxSteps:=1000000) (disch:=omega) only [decide_true,decide_false,go_sem,wrapI,wrapB,upd_is,upd_not,Nat.reduceAdd,Nat.reduceSub,Nat.reduceMul,Nat.reduceLeDiff,Nat.reduceEqDiff,Int.reduceAdd,Int.reduceSub,Int.reduceMul,Int.reduceNeg,Int.reduceLT,Int.reduceLE,Int.reduceEq,Int.reduceToNat,reduceCtorEq,reduceIte,Nat.zero_add,Nat.add_zero, *]
                  rw [← HR.out]; exact RC_ret rfl (by rw [HF.out]; simp [namedF, nm0, htable, hkey, hindex, hjoin, hntable, hnkey, hnindex])
                · refine CALL_con0 hc rfl ?_
                  simp (maxSteps:=1000000) (disch:=omega) only [decide_true,decide_false,go_sem,wrapI,wrapB,upd_is,upd_not,Nat.reduceAdd,Nat.reduceSub,Nat.reduceMul,Nat.reduceLeDiff,Nat.reduceEqDiff,Int.reduceAdd,Int.reduceSub,Int.reduceMul,Int.reduceNeg,Int.reduceLT,Int.reduceLE,Int.reduceEq,Int.reduceToNat,reduceCtorEq,reduceIte,Nat.zero_add,Nat.add_zero, *]
                  rw [← HR.out]; exact RC_ret rfl (by rw [HF.out]; simp [namedF, nm0, htable, hkey, hindex, hjoin, hntable, hnkey, hnindex])
  · have h_ := trivial
    by_cases htable : table = []
    · simp (maxSteps:=1000000) (disch:=omega) only [sh_ref04_names,encSm,decide_true,decide_false,go_sem,wrapI,wrapB,upd_is,upd_not,Nat.reduceAdd,Nat.reduceSub,Nat.reduceMul,Nat.reduceLeDiff,Nat.reduceEqDiff,Int.reduceAdd,Int.reduceSub,Int.reduceMul,Int.reduceNeg,Int.reduceLT,Int.reduceLE,Int.reduceEq,Int.reduceToNat,reduceCtorEq,reduceIte,Nat.zero_add,Nat.add_zero, *]
      intro n_ hn_
      rw [← HR.out]; exact RC_ret rfl (by rw [HF.out]; simp [namedF, nm0, htable])
    · have htable_ := htable
      by_cases hkey : key = []
      · have hkey_ := hkey
        by_cases hindex : index = []
        · have hindex_ := hindex
          by_cases hjoin : join = []
          · simp (maxSteps:=1000000) (disch:=omega) only [sh_ref04_names,encSm,decide_true,decide_false,go_sem,wrapI,wrapB,upd_is,upd_not,Nat.reduceAdd,Nat.reduceSub,Nat.reduceMul,Nat.reduceLeDiff,Nat.reduceEqDiff,Int.reduceAdd,Int.reduceSub,Int.reduceMul,Int.reduceNeg,Int.reduceLT,Int.reduceLE,Int.reduceEq,Int.reduceToNat,reduceCtorEq,reduceIte,Nat.zero_add,Nat.add_zero, *]
            intro n_ hn_
            have hc := H1.out
            cases hntable : nameL table <;> rw [hntable] at hc
            · refine CALL_con0 hc rfl ?_
              simp (maxSteps:=1000000) (disch:=omega) only [decide_true,decide_false,go_sem,wrapI,wrapB,upd_is,upd_not,Nat.reduceAdd,Nat.reduceSub,Nat.reduceMul,Nat.reduceLeDiff,Nat.reduceEqDiff,Int.reduceAdd,Int.reduceSub,Int.reduceMul,Int.reduceNeg,Int.reduceLT,Int.reduceLE,Int.reduceEq,Int.reduceToNat,reduceCtorEq,reduceIte,Nat.zero_add,Nat.add_zero, *]
              rw [← HR.out]; exact RC_ret rfl (by rw [HF.out]; simp [namedF, nm0, htable, hkey, hindex, hjoin, hntable])
            · refine CALL_con0 hc rfl ?_
              simp (maxSteps:=1000000) (disch:=omega) only [decide_true,decide_false,go_sem,wrapI,wrapB,upd_is,upd_not,Nat.reduceAdd,Nat.reduceSub,Nat.reduceMul,Nat.reduceLeDiff,Nat.reduceEqDiff,Int.reduceAdd,Int.reduceSub,Int.reduceMul,Int.reduceNeg,Int.reduceLT,Int.reduceLE,Int.reduceEq,Int.reduceToNat,reduceCtorEq,reduceIte,Nat.zero_add,Nat.add_zero, *]
              rw [← HR.out]; exact RC_ret rfl (by rw [HF.out]; simp [namedF, nm0, htable, hkey, hindex, hjoin, hntable])
          · simp (maxSteps:=1000000) (disch:=omega) only [sh_ref04_names,encSm,decide_true,decide_false,go_sem,wrapI,wrapB,upd_is,upd_not,Nat.reduceAdd,Nat.reduceSub,Nat.reduceMul,Nat.reduceLeDiff,Nat.reduceEqDiff,Int.reduceAdd,Int.reduceSub,Int.reduceMul,Int.reduceNeg,Int.reduceLT,Int.reduceLE,Int.reduceEq,Int.reduceToNat,reduceCtorEq,reduceIte,Nat.zero_add,Nat.add_zero, *]
            intro n_ hn_
            have hc := H1.out
            cases hntable : nameL table <;> rw [hntable] at hc
            · refine CALL_con0 hc rfl ?_
              simp (maxSteps:=1000000) (disch:=omega) only [decide_true,decide_false,go_sem,wrapI,wrapB,upd_is,upd_not,Nat.reduceAdd,Nat.reduceSub,Nat.reduceMul,Nat.reduceLeDiff,Nat.reduceEqDiff,Int.reduceAdd,Int.reduceSub,Int.reduceMul,Int.reduceNeg,Int.reduceLT,Int.reduceLE,Int.reduceEq,Int.reduceToNat,reduceCtorEq,reduceIte,Nat.zero_add,Nat.add_zero, *]
              rw [← HR.out]; exact RC_ret rfl (by rw [HF.out]; simp [namedF, nm0, htable, hkey, hindex, hjoin, hntable])
            · refine CALL_con0 hc rfl ?_
              simp (maxSteps:=1000000) (disch:=omega) only [decide_true,decide_false,go_sem,wrapI,wrapB,upd_is,upd_not,Nat.reduceAdd,Nat.reduceSub,Nat.reduceMul,Nat.reduceLeDiff,Nat.reduceEqDiff,Int.reduceAdd,Int.reduceSub,Int.reduceMul,Int.reduceNeg,Int.reduceLT,Int.reduceLE,Int.reduceEq,Int.reduceToNat,reduceCtorEq,reduceIte,Nat.zero_add,Nat.add_zero, *]
              have hc := H4.out
              cases hnjoin : nameL join <;> rw [hnjoin] at hc
              · refine CALL_con0 hc rfl ?_
                simp (maxSteps:=1000000) (disch:=omega) only [decide_true,decide_false,go_sem,wrapI,wrapB,upd_is,upd_not,Nat.reduceAdd,Nat.reduceSub,Nat.reduceMul,Nat.reduceLeDiff,Nat.reduceEqDiff,Int.reduceAdd,Int.reduceSub,Int.reduceMul,Int.reduceNeg,Int.reduceLT,Int.reduceLE,Int.reduceEq,Int.reduceToNat,reduceCtorEq,reduceIte,Nat.zero_add,Nat.add_zero, *]
                rw [← HR.out]; exact RC_ret rfl (by rw [HF.out]; simp [namedF, nm0, htable, hkey, hindex, hjoin, hntable, hnjoin])
              · refine CALL_con0 hc rfl ?_
                simp (maxSteps:=1000000) (disch:=omega) only [decide_true,decide_false,go_sem,wrapI,wrapB,upd_is,upd_not,Nat.reduceAdd,Nat.reduceSub,Nat.reduceMul,Nat.reduceLeDiff,Nat.reduceEqDiff,Int.reduceAdd,Int.reduceSub,Int.reduceMul,Int.reduceNeg,Int.reduceLT,Int.reduceLE,Int.reduceEq,Int.reduceToNat,reduceCtorEq,reduceIte,Nat.zero_add,Nat.add_zero, *]
                rw [← HR.out]; exact RC_ret rfl (by rw [HF.out]; simp [namedF, nm0, htable, hkey, hindex, hjoin, hntable, hnjoin])
        · simp (maxSteps:=1000000) (disch:=omega) only [sh_ref04_names,encSm,decide_true,decide_false,go_sem,wrapI,wrapB,upd_is,upd_not,Nat.reduceAdd,Nat.reduceSub,Nat.reduceMul,Nat.reduceLeDiff,Nat.reduceEqDiff,Int.reduceAdd,Int.reduceSub,Int.reduceMul,Int.reduceNeg,Int.reduceLT,Int.reduceLE,Int.reduceEq,Int.reduceToNat,reduceCtorEq,reduceIte,Nat.zero_add,Nat.add_zero, *]
          intro n_ hn_
          rw [← HR.out]; exact RC_ret rfl (by rw [HF.out]; simp [namedF, nm0, htable, hkey, hindex])
      · simp (maxSteps:=1000000) (disch:=omega) only [sh_ref04_names,encSm,decide_true,decide_false,go_sem,wrapI,wrapB,upd_is,upd_not,Nat.reduceAdd,Nat.reduceSub,Nat.reduceMul,Nat.reduceLeDiff,Nat.reduceEqDiff,Int.reduceAdd,Int.reduceSub,Int.reduceMul,Int.reduceNeg,Int.reduceLT,Int.reduceLE,Int.reduceEq,Int.reduceToNat,reduceCtorEq,reduceIte,Nat.zero_add,Nat.add_zero, *]
        intro n_ hn_
        rw [← HR.out]; exact RC_ret rfl (by rw [HF.out]; simp [namedF, nm0, htable, hkey])
  · have h_ := trivial
    by_cases htable : table = []
    · simp (maxSteps:=1000000) (disch:=omega) only [sh_ref04_names,encSm,decide_true,decide_false,go_sem,wrapI,wrapB,upd_is,upd_not,Nat.reduceAdd,Nat.reduceSub,Nat.reduceMul,Nat.reduceLeDiff,Nat.reduceEqDiff,Int.reduceAdd,Int.reduceSub,Int.reduceMul,Int.reduceNeg,Int.reduceLT,Int.reduceLE,Int.reduceEq,Int.reduceToNat,reduceCtorEq,reduceIte,Nat.zero_add,Nat.add_zero, *]
      intro n_ hn_
      rw [← HR.out]; exact RC_ret rfl (by rw [HF.out]; simp [namedF, nm0, h7, g1, g2, g7, htable])
    · have htable_ := htable
      by_cases hkey : key = []
      · have hkey_ := hkey
        by_cases hindex : index = []
        · have hindex_ := hindex
          by_cases hjoin : join = []
          · simp (maxSteps:=1000000) (disch:=omega) only [sh_ref04_names,encSm,decide_true,decide_false,go_sem,wrapI,wrapB,upd_is,upd_not,Nat.reduceAdd,Nat.reduceSub,Nat.reduceMul,Nat.reduceLeDiff,Nat.reduceEqDiff,Int.reduceAdd,Int.reduceSub,Int.reduceMul,Int.reduceNeg,Int.reduceLT,Int.reduceLE,Int.reduceEq,Int.reduceToNat,reduceCtorEq,reduceIte,Nat.zero_add,Nat.add_zero, *]
            intro n_ hn_
            have hc := H1.out
            cases hntable : nameL table <;> rw [hntable] at hc
            · refine CALL_con0 hc rfl ?_
              simp (maxSteps:=1000000) (disch:=omega) only [decide_true,decide_false,go_sem,wrapI,wrapB,upd_is,upd_not,Nat.reduceAdd,Nat.reduceSub,Nat.reduceMul,Nat.reduceLeDiff,Nat.reduceEqDiff,Int.reduceAdd,Int.reduceSub,Int.reduceMul,Int.reduceNeg,Int.reduceLT,Int.reduceLE,Int.reduceEq,Int.reduceToNat,reduceCtorEq,reduceIte,Nat.zero_add,Nat.add_zero, *]
              rw [← HR.out]; exact RC_ret rfl (by rw [HF.out]; simp [namedF, nm0, h7, g1, g2, g7, htable, hkey, hindex, hjoin, hntable])
            · refine CALL_con0 hc rfl ?_
              simp (maxSteps:=1000000) (disch:=omega) only [decide_true,decide_false,go_sem,wrapI,wrapB,upd_is,upd_not,Nat.reduceAdd,Nat.reduceSub,Nat.reduceMul,Nat.reduceLeDiff,Nat.reduceEqDiff,Int.reduceAdd,Int.reduceSub,Int.reduceMul,Int.reduceNeg,Int.reduceLT,Int.reduceLE,Int.reduceEq,Int.reduceToNat,reduceCtorEq,reduceIte,Nat.zero_add,Nat.add_zero, *]
              rw [← HR.out]; exact RC_ret rfl (by rw [HF.out]; simp [namedF, nm0, h7, g1, g2, g7, htable, hkey, hindex, hjoin, hntable])
          · simp (maxSteps:=1000000) (disch:=omega) only [sh_ref04_names,encSm,decide_true,decide_false,go_sem,wrapI,wrapB,upd_is,upd_not,Nat.reduceAdd,Nat.reduceSub,Nat.reduceMul,Nat.reduceLeDiff,Nat.reduceEqDiff,Int.reduceAdd,Int.reduceSub,Int.reduceMul,Int.reduceNeg,Int.reduceLT,Int.reduceLE,Int.reduceEq,Int.reduceToNat,reduceCtorEq,reduceIte,Nat.zero_add,Nat.add_zero, *]
            intro n_ hn_
            have hc := H1.out
            cases hntable : nameL table <;> rw [hntable] at hc
            · refine CALL_con0 hc rfl ?_
              simp (maxSteps:=1000000) (disch:=omega) only [decide_true,decide_false,go_sem,wrapI,wrapB,upd_is,upd_not,Nat.reduceAdd,Nat.reduceSub,Nat.reduceMul,Nat.reduceLeDiff,Nat.reduceEqDiff,Int.reduceAdd,Int.reduceSub,Int.reduceMul,Int.reduceNeg,Int.reduceLT,Int.reduceLE,Int.reduceEq,Int.reduceToNat,reduceCtorEq,reduceIte,Nat.zero_add,Nat.add_zero, *]
              rw [← HR.out]; exact RC_ret rfl (by rw [HF.out]; simp [namedF, nm0, h7, g1, g2, g7, htable, hkey, hindex, hjoin, hntable])
            · refine CALL_con0 hc rfl ?_
              simp (maxSteps:=1000000) (disch:=omega) only [decide_true,decide_false,go_sem,wrapI,wrapB,upd_is,upd_not,Nat.reduceAdd,Nat.reduceSub,Nat.reduceMul,Nat.reduceLeDiff,Nat.reduceEqDiff,Int.reduceAdd,Int.reduceSub,Int.reduceMul,Int.reduceNeg,Int.reduceLT,Int.reduceLE,Int.reduceEq,Int.reduceToNat,reduceCtorEq,reduceIte,Nat.zero_add,Nat.add_zero, *]
              rw [← HR.out]; exact RC_ret rfl (by rw [HF.out]; simp [namedF, nm0, h7, g1, g2, g7, htable, hkey, hindex, hjoin, hntable])
        · simp (maxSteps:=1000000) (disch:=omega) only [sh_ref04_names,encSm,decide_true,decide_false,go_sem,wrapI,wrapB,upd_is,upd_not,Nat.reduceAdd,Nat.reduceSub,Nat.reduceMul,Nat.reduceLeDiff,Nat.reduceEqDiff,Int.reduceAdd,Int.reduceSub,Int.reduceMul,Int.reduceNeg,Int.reduceLT,Int.reduceLE,Int.reduceEq,Int.reduceToNat,reduceCtorEq,reduceIte,Nat.zero_add,Nat.add_zero, *]
          intro n_ hn_
          rw [← HR.out]; exact RC_ret rfl (by rw [HF.out]; simp [namedF, nm0, h7, g1, g2, g7, htable, hkey, hindex])
      · simp (maxSteps:=1000000) (disch:=omega) only [sh_ref04_names,encSm,decide_true,decide_false,go_sem,wrapI,wrapB,upd_is,upd_not,Nat.reduceAdd,Nat.reduceSub,Nat.reduceMul,Nat.reduceLeDiff,Nat.reduceEqDiff,Int.reduceAdd,Int.reduceSub,Int.reduceMul,Int.reduceNeg,Int.reduceLT,Int.reduceLE,Int.reduceEq,Int.reduceToNat,reduceCtorEq,reduceIte,Nat.zero_add,Nat.add_zero, *]
        intro n_ hn_
        rw [← HR.out]; exact RC_ret rfl (by rw [HF.out]; simp [namedF, nm0, h7, g1, g2, g7, htable, hkey])
  · have h_ := trivial
    have g1 : ¬ kind = 1 := by omega
    have g2 : ¬ kind = 2 := by omega
    have g7 : ¬ kind = 7 := by omega
    have h7 : ¬ kind ≤ 7 := by omega
    by_cases htable : table = []
    · have htable_ := htable
      by_cases hkey : key = []
      · have hkey_ := hkey
        by_cases hindex : index = []
        · have hindex_ := hindex
          by_cases hjoin : join = []
          · simp (maxSteps:=1000000) (disch:=omega) only [sh_ref04_names,encSm,decide_true,decide_false,go_sem,wrapI,wrapB,upd_is,upd_not,Nat.reduceAdd,Nat.reduceSub,Nat.reduceMul,Nat.reduceLeDiff,Nat.reduceEqDiff,Int.reduceAdd,Int.reduceSub,Int.reduceMul,Int.reduceNeg,Int.reduceLT,Int.reduceLE,Int.reduceEq,Int.reduceToNat,reduceCtorEq,reduceIte,Nat.zero_add,Nat.add_zero, *]
            intro n_ hn_
            rw [← HR.out]; exact RC_ret rfl (by rw [HF.out]; simp [namedF, nm0, h7, g1, g2, g7, htable, hkey, hindex, hjoin])
          · simp (maxSteps:=1000000) (disch:=omega) only [sh_ref04_names,encSm,decide_true,decide_false,go_sem,wrapI,wrapB,upd_is,upd_not,Nat.reduceAdd,Nat.reduceSub,Nat.reduceMul,Nat.reduceLeDiff,Nat.reduceEqDiff,Int.reduceAdd,Int.reduceSub,Int.reduceMul,Int.reduceNeg,Int.reduceLT,Int.reduceLE,Int.reduceEq,Int.reduceToNat,reduceCtorEq,reduceIte,Nat.zero_add,Nat.add_zero, *]
            intro n_ hn_
            rw [← HR.out]; exact RC_ret rfl (by rw [HF.out]; simp [namedF, nm0, h7, g1, g2, g7, htable, hkey, hindex, hjoin])
        · simp (maxSteps:=1000000) (disch:=omega) only [sh_ref04_names,encSm,decide_true,decide_false,go_sem,wrapI,wrapB,upd_is,upd_not,Nat.reduceAdd,Nat.reduceSub,Nat.reduceMul,Nat.reduceLeDiff,Nat.reduceEqDiff,Int.reduceAdd,Int.reduceSub,Int.reduceMul,Int.reduceNeg,Int.reduceLT,Int.reduceLE,Int.reduceEq,Int.reduceToNat,reduceCtorEq,reduceIte,Nat.zero_add,Nat.add_zero, *]
          intro n_ hn_
          rw [← HR.out]; exact RC_ret rfl (by rw [HF.out]; simp [namedF, nm0, h7, g1, g2, g7, htable, hkey, hindex])
      · simp (maxSteps:=1000000) (disch:=omega) only [sh_ref04_names,encSm,decide_true,decide_false,go_sem,wrapI,wrapB,upd_is,upd_not,Nat.reduceAdd,Nat.reduceSub,Nat.reduceMul,Nat.reduceLeDiff,Nat.reduceEqDiff,Int.reduceAdd,Int.reduceSub,Int.reduceMul,Int.reduceNeg,Int.reduceLT,Int.reduceLE,Int.reduceEq,Int.reduceToNat,reduceCtorEq,reduceIte,Nat.zero_add,Nat.add_zero, *]
        intro n_ hn_
        rw [← HR.out]; exact RC_ret rfl (by rw [HF.out]; simp [namedF, nm0, h7, g1, g2, g7, htable, hkey])
    · simp (maxSteps:=1000000) (disch:=omega) only [sh_ref04_names,encSm,decide_true,decide_false,go_sem,wrapI,wrapB,upd_is,upd_not,Nat.reduceAdd,Nat.reduceSub,Nat.reduceMul,Nat.reduceLeDiff,Nat.reduceEqDiff,Int.reduceAdd,Int.reduceSub,Int.reduceMul,Int.reduceNeg,Int.reduceLT,Int.reduceLE,Int.reduceEq,Int.reduceToNat,reduceCtorEq,reduceIte,Nat.zero_add,Nat.add_zero, *]
      intro n_ hn_
      rw [← HR.out]; exact RC_ret rfl (by rw [HF.out]; simp [namedF, nm0, h7, g1, g2, g7, htable])
--names--
end Go.Proofs.YtodoejfkjimeaaaDoor

set_option linter.unusedSimpArgs false
set_option linter.unusedVariables false
set_option maxRecDepth 100000
namespace Go.Proofs.YtodoejfkjimeaaaDoor
open Go Go.RowKit Am
attribute [-go_sem] guardP_if guardK_if guardD_if COND_bool
attribute [local go_sem low] guardP_if guardK_if guardD_if COND_bool
def lstF (x : Sm) : Bool := !x.columns.any colBad && !x.rows.any rowBad && !x.sets.any setBad && !x.order.any ordBad
theorem any_no {α : Type} {q : α → Bool} {l : List α} {i : Nat} {x : α} (hx : l[i]? = some x) (h0 : (l.take i).any q = false) (h : q x = false) : (l.take (i + 1)).any q = false := by rw [any_take hx, h0, h]; rfl
set_option maxHeartbeats 8000000 in
theorem rfLists_con (x : Sm) (hb : SBd x) : Con Tryd.prog 37 [.ag (encSm x)] (.ret (.sc (.bool (lstF x)))) := by
  refine con_of (by_ref04_lists ?_)
  generalize hR : RC _ = R
  have HR := Lib.hid hR; clear hR
  have e2 := hb.cols; have e5 := hb.rows; have e6 := hb.sets; have e12 := hb.order
  have e5' := fun l hl => (hb.row l hl).len
  have HC := Lib.hid (fun c hc => rfName_con (Cl.name c) (hb.col c hc))
  have HS := Lib.hid (fun s hs => rfName_con (Se.name s) (hb.set s hs).1)
  have HE5 := Lib.hid e5'; clear e5' hb
  obtain ⟨kind, table, columns, key, index, rows, sets, items, join, on, wh, group, order, limit⟩ := x
  simp only at HC HS e2 e5 e6 e12 HE5
  have hF : lstF ⟨kind, table, columns, key, index, rows, sets, items, join, on, wh, group, order, limit⟩ = (!columns.any colBad && !rows.any rowBad && !sets.any setBad && !order.any ordBad) := rfl
  have HF := Lib.hid hF; clear hF
  simp (maxSteps:=1000000) (disch:=omega) only [sh_ref04_lists,encSm,go_sem,wrapI,wrapB,upd_is,upd_not,Nat.reduceAdd,Nat.reduceSub,Nat.reduceMul,Nat.reduceLeDiff,Nat.reduceEqDiff,Int.reduceAdd,Int.reduceSub,Int.reduceMul,Int.reduceNeg,Int.reduceLT,Int.reduceLE,Int.reduceEq,Int.reduceToNat,reduceCtorEq,reduceIte,Nat.zero_add,Nat.add_zero, *]
  generalize hσ : upd _ _ _ = σ
  have h0 : σ 0 = some (.c ⟨14, [[.sc (.int .i64 kind), .s table, .tr (columns.map encC), .s key, .s index, .tr (rows.map encRx), .tr (sets.map encS), .tr (items.map encE), .s join, .tr (on.map encE), .tr (wh.map encE), .tr (group.map encE), .tr (order.map encO), .sc (.int .i64 limit)]], true, false⟩) := by rw [← hσ]; exact upd_is rfl
  clear hσ
  refine LOOP_list columns (fun i st => ∃ a b c, st = [a, b, c, .sc (.int .i64 i)] ∧ (columns.take i).any colBad = false) ⟨_, _, _, rfl, rfl⟩ ?_ ?_
  · rintro i c K st n' hx hi hi' hn ⟨x0, x1, x2, rfl, h1⟩ hK
    have HK := Lib.hid hK; clear hK
    have HN := Lib.hid (any_no hx h1)
    have HY := Lib.hid (any_stop (q := colBad) hx)
    have HX := Lib.hid (HC.out c (List.mem_of_getElem? hx)); clear h1
    simp (maxSteps:=1000000) (disch:=omega) only [lb_ref04_lists6,List.getD_cons_succ,List.getD_cons_zero,decide_true,decide_false,encC,go_sem,wrapI,wrapB,upd_is,upd_not,Nat.reduceAdd,Nat.reduceSub,Nat.reduceMul,Nat.reduceLeDiff,Nat.reduceEqDiff,Int.reduceAdd,Int.reduceSub,Int.reduceMul,Int.reduceNeg,Int.reduceLT,Int.reduceLE,Int.reduceEq,Int.reduceToNat,reduceCtorEq,reduceIte,Nat.zero_add,Nat.add_zero, *]
    intro _
    refine CALL_con0 HX.out rfl ?_
    have hb : colBad c = true ∨ colBad c = false := by cases colBad c <;> simp
    have hcb : colBad c = (!nameL c.name || decide (c.kind < 1) || decide (3 < c.kind)) := rfl
    rcases hb with hb | hb
    · have HY' := Lib.hid (HY.out hb); clear HY HN
      rw [hb] at hcb
      cases hn1 : nameL c.name
      · clear hcb
        simp (maxSteps:=1000000) (disch:=omega) only [List.getD_cons_succ,List.getD_cons_zero,decide_true,decide_false,encC,go_sem,wrapI,wrapB,upd_is,upd_not,Nat.reduceAdd,Nat.reduceSub,Nat.reduceMul,Nat.reduceLeDiff,Nat.reduceEqDiff,Int.reduceAdd,Int.reduceSub,Int.reduceMul,Int.reduceNeg,Int.reduceLT,Int.reduceLE,Int.reduceEq,Int.reduceToNat,reduceCtorEq,reduceIte,Nat.zero_add,Nat.add_zero, *]
        rw [← HR.out]; exact RC_ret rfl (by rw [HF.out, HY'.out]; rfl)
      · by_cases hk : c.kind < 1
        · clear hcb
          simp (maxSteps:=1000000) (disch:=omega) only [List.getD_cons_succ,List.getD_cons_zero,decide_true,decide_false,encC,go_sem,wrapI,wrapB,upd_is,upd_not,Nat.reduceAdd,Nat.reduceSub,Nat.reduceMul,Nat.reduceLeDiff,Nat.reduceEqDiff,Int.reduceAdd,Int.reduceSub,Int.reduceMul,Int.reduceNeg,Int.reduceLT,Int.reduceLE,Int.reduceEq,Int.reduceToNat,reduceCtorEq,reduceIte,Nat.zero_add,Nat.add_zero, *]
          rw [← HR.out]; exact RC_ret rfl (by rw [HF.out, HY'.out]; rfl)
        · have hk3 : 3 < c.kind := by simpa [hn1, hk] using hcb
          clear hcb
          simp (maxSteps:=1000000) (disch:=omega) only [List.getD_cons_succ,List.getD_cons_zero,decide_true,decide_false,encC,go_sem,wrapI,wrapB,upd_is,upd_not,Nat.reduceAdd,Nat.reduceSub,Nat.reduceMul,Nat.reduceLeDiff,Nat.reduceEqDiff,Int.reduceAdd,Int.reduceSub,Int.reduceMul,Int.reduceNeg,Int.reduceLT,Int.reduceLE,Int.reduceEq,Int.reduceToNat,reduceCtorEq,reduceIte,Nat.zero_add,Nat.add_zero, *]
          rw [← HR.out]; exact RC_ret rfl (by rw [HF.out, HY'.out]; rfl)
    · have HN' := Lib.hid (HN.out hb); clear HY HN
      rw [hb] at hcb
      have hcb' := hcb.symm
      simp only [Bool.or_eq_false_iff, Bool.not_eq_false', decide_eq_false_iff_not] at hcb'
      obtain ⟨⟨hn1, hk1⟩, hk3⟩ := hcb'
      clear hcb
      simp (maxSteps:=1000000) (disch:=omega) only [List.getD_cons_succ,List.getD_cons_zero,decide_true,decide_false,encC,go_sem,wrapI,wrapB,upd_is,upd_not,Nat.reduceAdd,Nat.reduceSub,Nat.reduceMul,Nat.reduceLeDiff,Nat.reduceEqDiff,Int.reduceAdd,Int.reduceSub,Int.reduceMul,Int.reduceNeg,Int.reduceLT,Int.reduceLE,Int.reduceEq,Int.reduceToNat,reduceCtorEq,reduceIte,Nat.zero_add,Nat.add_zero, *]
      exact HK.out _ _ (Nat.le_refl _) ⟨_, _, _, rfl, HN'.out⟩
  · rintro K st n' hn ⟨x0, x1, x2, rfl, hcols⟩
    rw [List.take_length] at hcols
    have HF1 := HF.out
    rw [hcols] at HF1
    have HF1' := Lib.hid HF1; clear HF1 HF
    clear hcols
    simp (maxSteps:=1000000) (disch:=omega) only [lb_ref04_lists6,List.getD_cons_succ,List.getD_cons_zero,decide_true,decide_false,Int.lt_irrefl,go_sem,wrapI,wrapB,upd_is,upd_not,Nat.reduceAdd,Nat.reduceSub,Nat.reduceMul,Nat.reduceLeDiff,Nat.reduceEqDiff,Int.reduceAdd,Int.reduceSub,Int.reduceMul,Int.reduceNeg,Int.reduceLT,Int.reduceLE,Int.reduceEq,Int.reduceToNat,reduceCtorEq,reduceIte,Nat.zero_add,Nat.add_zero, *]
    intro _
    refine LOOP_list rows (fun i st => ∃ a b c, st = [a, b, c, .sc (.int .i64 i)] ∧ (rows.take i).any rowBad = false) ⟨_, _, _, rfl, rfl⟩ ?_ ?_
    · rintro i l K st n'' hx hi hi' hn ⟨x0, x1, x2, rfl, h1⟩ hK
      have HK := Lib.hid hK; clear hK
      have HN := Lib.hid (any_no hx h1)
      have HY := Lib.hid (any_stop (q := rowBad) hx)
      have hl := HE5.out l (List.mem_of_getElem? hx); clear h1
      have hb : rowBad l = true ∨ rowBad l = false := by cases rowBad l <;> simp
      have hcb : rowBad l = (decide ((l.length : Int) < 1) || decide (8 < (l.length : Int))) := rfl
      rcases hb with hb | hb
      · have HY' := Lib.hid (HY.out hb); clear HY HN
        rw [hb] at hcb
        by_cases hk : (l.length : Int) < 1
        · clear hcb
          simp (maxSteps:=1000000) (disch:=omega) only [lb_ref04_lists5,List.getD_cons_succ,List.getD_cons_zero,decide_true,decide_false,encRx,List.map_map,go_sem,wrapI,wrapB,upd_is,upd_not,Nat.reduceAdd,Nat.reduceSub,Nat.reduceMul,Nat.reduceLeDiff,Nat.reduceEqDiff,Int.reduceAdd,Int.reduceSub,Int.reduceMul,Int.reduceNeg,Int.reduceLT,Int.reduceLE,Int.reduceEq,Int.reduceToNat,reduceCtorEq,reduceIte,Nat.zero_add,Nat.add_zero, *]
          intro _ _
          rw [← HR.out]; exact RC_ret rfl (by rw [HF1'.out, HY'.out]; rfl)
        · have hk3 : 8 < (l.length : Int) := by simpa [hk] using hcb
          clear hcb
          simp (maxSteps:=1000000) (disch:=omega) only [lb_ref04_lists5,List.getD_cons_succ,List.getD_cons_zero,decide_true,decide_false,encRx,List.map_map,go_sem,wrapI,wrapB,upd_is,upd_not,Nat.reduceAdd,Nat.reduceSub,Nat.reduceMul,Nat.reduceLeDiff,Nat.reduceEqDiff,Int.reduceAdd,Int.reduceSub,Int.reduceMul,Int.reduceNeg,Int.reduceLT,Int.reduceLE,Int.reduceEq,Int.reduceToNat,reduceCtorEq,reduceIte,Nat.zero_add,Nat.add_zero, *]
          intro _ _
          rw [← HR.out]; exact RC_ret rfl (by rw [HF1'.out, HY'.out]; rfl)
      · have HN' := Lib.hid (HN.out hb); clear HY HN
        rw [hb] at hcb
        have hcb' := hcb.symm
        simp only [Bool.or_eq_false_iff, decide_eq_false_iff_not] at hcb'
        obtain ⟨hk1, hk3⟩ := hcb'
        clear hcb
        simp (maxSteps:=1000000) (disch:=omega) only [lb_ref04_lists5,List.getD_cons_succ,List.getD_cons_zero,decide_true,decide_false,encRx,List.map_map,go_sem,wrapI,wrapB,upd_is,upd_not,Nat.reduceAdd,Nat.reduceSub,Nat.reduceMul,Nat.reduceLeDiff,Nat.reduceEqDiff,Int.reduceAdd,Int.reduceSub,Int.reduceMul,Int.reduceNeg,Int.reduceLT,Int.reduceLE,Int.reduceEq,Int.reduceToNat,reduceCtorEq,reduceIte,Nat.zero_add,Nat.add_zero, *]
        intro _ _
        exact HK.out _ _ (Nat.le_refl _) ⟨_, _, _, rfl, HN'.out⟩
    · rintro K st n' hn ⟨x0, x1, x2, rfl, hrows⟩
      rw [List.take_length] at hrows
      have HF2 := HF1'.out
      rw [hrows] at HF2
      have HF2' := Lib.hid HF2; clear HF2 HF1'
      clear hrows
      simp (maxSteps:=1000000) (disch:=omega) only [lb_ref04_lists5,List.getD_cons_succ,List.getD_cons_zero,decide_true,decide_false,Int.lt_irrefl,go_sem,wrapI,wrapB,upd_is,upd_not,Nat.reduceAdd,Nat.reduceSub,Nat.reduceMul,Nat.reduceLeDiff,Nat.reduceEqDiff,Int.reduceAdd,Int.reduceSub,Int.reduceMul,Int.reduceNeg,Int.reduceLT,Int.reduceLE,Int.reduceEq,Int.reduceToNat,reduceCtorEq,reduceIte,Nat.zero_add,Nat.add_zero, *]
      intro _
      refine LOOP_list sets (fun i st => ∃ a b c, st = [a, b, c, .sc (.int .i64 i)] ∧ (sets.take i).any setBad = false) ⟨_, _, _, rfl, rfl⟩ ?_ ?_
      · rintro i s K st n'' hx hi hi' hn ⟨x0, x1, x2, rfl, h1⟩ hK
        have HK := Lib.hid hK; clear hK
        have HN := Lib.hid (any_no hx h1)
        have HY := Lib.hid (any_stop (q := setBad) hx)
        have HX := Lib.hid (HS.out s (List.mem_of_getElem? hx)); clear h1
        have hen : (encS s)[0]? = some (.s s.name) := rfl
        simp (maxSteps:=1000000) (disch:=omega) only [lb_ref04_lists4,List.getD_cons_succ,List.getD_cons_zero,decide_true,decide_false,go_sem,wrapI,wrapB,upd_is,upd_not,Nat.reduceAdd,Nat.reduceSub,Nat.reduceMul,Nat.reduceLeDiff,Nat.reduceEqDiff,Int.reduceAdd,Int.reduceSub,Int.reduceMul,Int.reduceNeg,Int.reduceLT,Int.reduceLE,Int.reduceEq,Int.reduceToNat,reduceCtorEq,reduceIte,Nat.zero_add,Nat.add_zero, *]
        intro _
        refine CALL_con0 HX.out rfl ?_
        cases hn1 : nameL s.name
        · have HY' := Lib.hid (HY.out (by rw [setBad, hn1]; rfl)); clear HY HN
          simp (maxSteps:=1000000) (disch:=omega) only [decide_true,decide_false,go_sem,wrapI,wrapB,upd_is,upd_not,Nat.reduceAdd,Nat.reduceSub,Nat.reduceMul,Nat.reduceLeDiff,Nat.reduceEqDiff,Int.reduceAdd,Int.reduceSub,Int.reduceMul,Int.reduceNeg,Int.reduceLT,Int.reduceLE,Int.reduceEq,Int.reduceToNat,reduceCtorEq,reduceIte,Nat.zero_add,Nat.add_zero, *]
          rw [← HR.out]; exact RC_ret rfl (by rw [HF2'.out, HY'.out]; rfl)
        · have HN' := Lib.hid (HN.out (by rw [setBad, hn1]; rfl)); clear HY HN
          simp (maxSteps:=1000000) (disch:=omega) only [decide_true,decide_false,go_sem,wrapI,wrapB,upd_is,upd_not,Nat.reduceAdd,Nat.reduceSub,Nat.reduceMul,Nat.reduceLeDiff,Nat.reduceEqDiff,Int.reduceAdd,Int.reduceSub,Int.reduceMul,Int.reduceNeg,Int.reduceLT,Int.reduceLE,Int.reduceEq,Int.reduceToNat,reduceCtorEq,reduceIte,Nat.zero_add,Nat.add_zero, *]
          exact HK.out _ _ (Nat.le_refl _) ⟨_, _, _, rfl, HN'.out⟩
      · rintro K st n' hn ⟨x0, x1, x2, rfl, hsets⟩
        rw [List.take_length] at hsets
        have HF3 := HF2'.out
        rw [hsets] at HF3
        have HF3' := Lib.hid HF3; clear HF3 HF2'
        clear hsets
        simp (maxSteps:=1000000) (disch:=omega) only [lb_ref04_lists4,List.getD_cons_succ,List.getD_cons_zero,decide_true,decide_false,Int.lt_irrefl,go_sem,wrapI,wrapB,upd_is,upd_not,Nat.reduceAdd,Nat.reduceSub,Nat.reduceMul,Nat.reduceLeDiff,Nat.reduceEqDiff,Int.reduceAdd,Int.reduceSub,Int.reduceMul,Int.reduceNeg,Int.reduceLT,Int.reduceLE,Int.reduceEq,Int.reduceToNat,reduceCtorEq,reduceIte,Nat.zero_add,Nat.add_zero, *]
        intro _
        refine LOOP_list order (fun i st => ∃ a b c, st = [a, b, c, .sc (.int .i64 i)] ∧ (order.take i).any ordBad = false) ⟨_, _, _, rfl, rfl⟩ ?_ ?_
        · rintro i o K st n'' hx hi hi' hn ⟨x0, x1, x2, rfl, h1⟩ hK
          have HK := Lib.hid hK; clear hK
          have HN := Lib.hid (any_no hx h1)
          have HY := Lib.hid (any_stop (q := ordBad) hx); clear h1
          have hb : ordBad o = true ∨ ordBad o = false := by cases ordBad o <;> simp
          have hcb : ordBad o = (decide (o.n < 1) || decide (16 < o.n)) := rfl
          rcases hb with hb | hb
          · have HY' := Lib.hid (HY.out hb); clear HY HN
            rw [hb] at hcb
            by_cases hk : o.n < 1
            · clear hcb
              simp (maxSteps:=1000000) (disch:=omega) only [lb_ref04_lists3,List.getD_cons_succ,List.getD_cons_zero,decide_true,decide_false,encO,go_sem,wrapI,wrapB,upd_is,upd_not,Nat.reduceAdd,Nat.reduceSub,Nat.reduceMul,Nat.reduceLeDiff,Nat.reduceEqDiff,Int.reduceAdd,Int.reduceSub,Int.reduceMul,Int.reduceNeg,Int.reduceLT,Int.reduceLE,Int.reduceEq,Int.reduceToNat,reduceCtorEq,reduceIte,Nat.zero_add,Nat.add_zero, *]
              intro _
              rw [← HR.out]; exact RC_ret rfl (by rw [HF3'.out, HY'.out]; rfl)
            · have hk3 : 16 < o.n := by simpa [hk] using hcb
              clear hcb
              simp (maxSteps:=1000000) (disch:=omega) only [lb_ref04_lists3,List.getD_cons_succ,List.getD_cons_zero,decide_true,decide_false,encO,go_sem,wrapI,wrapB,upd_is,upd_not,Nat.reduceAdd,Nat.reduceSub,Nat.reduceMul,Nat.reduceLeDiff,Nat.reduceEqDiff,Int.reduceAdd,Int.reduceSub,Int.reduceMul,Int.reduceNeg,Int.reduceLT,Int.reduceLE,Int.reduceEq,Int.reduceToNat,reduceCtorEq,reduceIte,Nat.zero_add,Nat.add_zero, *]
              intro _
              rw [← HR.out]; exact RC_ret rfl (by rw [HF3'.out, HY'.out]; rfl)
          · have HN' := Lib.hid (HN.out hb); clear HY HN
            rw [hb] at hcb
            have hcb' := hcb.symm
            simp only [Bool.or_eq_false_iff, decide_eq_false_iff_not] at hcb'
            obtain ⟨hk1, hk3⟩ := hcb'
            clear hcb
            simp (maxSteps:=1000000) (disch:=omega) only [lb_ref04_lists3,List.getD_cons_succ,List.getD_cons_zero,decide_true,decide_false,encO,go_sem,wrapI,wrapB,upd_is,upd_not,Nat.reduceAdd,Nat.reduceSub,Nat.reduceMul,Nat.reduceLeDiff,Nat.reduceEqDiff,Int.reduceAdd,Int.reduceSub,Int.reduceMul,Int.reduceNeg,Int.reduceLT,Int.reduceLE,Int.reduceEq,Int.reduceToNat,reduceCtorEq,reduceIte,Nat.zero_add,Nat.add_zero, *]
            intro _
            exact HK.out _ _ (Nat.le_refl _) ⟨_, _, _, rfl, HN'.out⟩
        · rintro K st n' hn ⟨x0, x1, x2, rfl, hord⟩
          rw [List.take_length] at hord
          have HF4 := HF3'.out
          rw [hord] at HF4
          have HF4' := Lib.hid HF4; clear HF4 HF3'
          clear hord
          simp (maxSteps:=1000000) (disch:=omega) only [lb_ref04_lists3,List.getD_cons_succ,List.getD_cons_zero,decide_true,decide_false,Int.lt_irrefl,go_sem,wrapI,wrapB,upd_is,upd_not,Nat.reduceAdd,Nat.reduceSub,Nat.reduceMul,Nat.reduceLeDiff,Nat.reduceEqDiff,Int.reduceAdd,Int.reduceSub,Int.reduceMul,Int.reduceNeg,Int.reduceLT,Int.reduceLE,Int.reduceEq,Int.reduceToNat,reduceCtorEq,reduceIte,Nat.zero_add,Nat.add_zero, *]
          intro _
          rw [← HR.out]; exact RC_ret rfl (by rw [HF4'.out]; rfl)
end Go.Proofs.YtodoejfkjimeaaaDoor
