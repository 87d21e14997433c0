/- Packed by a program of this repo: Ub Uc Ud. -/
import Derived.Test.YtodoejfkjimeaaaGreatDoorKTDj
set_option linter.unusedSimpArgs false
set_option linter.unusedVariables false
set_option maxRecDepth 100000
namespace Go.Proofs.YtodoejfkjimeaaaGreatDoor
open Go Go.RowKit Am
attribute [-go_sem] guardP_if guardK_if guardD_if COND_bool
attribute [local go_sem low] guardP_if guardK_if guardD_if COND_bool
attribute [local go_sem] wrapI wrapB upd_is upd_not Nat.zero_add Nat.add_zero
attribute [local go_sem_proc] Nat.reduceAdd Nat.reduceSub Nat.reduceMul Nat.reduceLeDiff Nat.reduceEqDiff Int.reduceAdd Int.reduceSub Int.reduceMul Int.reduceNeg Int.reduceLT Int.reduceLE Int.reduceEq Int.reduceToNat reduceCtorEq reduceIte
def namesF (x : Sm) : Bool :=
  namedF x.table (decide (x.kind ≤ 7)) && namedF x.key (decide (x.kind = 1) || decide (x.kind = 2)) && namedF x.index (decide (x.kind = 2)) && (decide (x.join = []) || (decide (x.kind = 7) && nameL x.join))
theorem nm0 : nameL [] = false := rfl
theorem name_ne {s : Tx} (h : nameL s = true) : s ≠ [] := by rintro rfl; cases h
set_option maxHeartbeats 8000000 in
theorem rfNames_con (x : Sm) (hb : SBd x) : Con Tryz.prog 28 [.ag (encSm x)] (.ret (.sc (.bool (namesF x)))) := by
  refine con_of (by_ref04_names ?_)
  generalize hR : RC _ = R
  have HR := Lib.hid hR; clear hR
  have H1 := Lib.hid (rfName_con x.table hb.table)
  have H2 := Lib.hid (rfName_con x.key hb.key)
  have H3 := Lib.hid (rfName_con x.index hb.index)
  have H4 := Lib.hid (rfName_con x.join hb.join)
  have N1 := Lib.hid (name_ne (s := x.table))
  clear hb
  obtain ⟨kind, table, columns, key, index, rows, sets, items, join, on, wh, group, order, limit⟩ := x
  simp only at H1 H2 H3 H4
  have hF : namesF ⟨kind, table, columns, key, index, rows, sets, items, join, on, wh, group, order, limit⟩ = (namedF table (decide (kind ≤ 7)) && namedF key (decide (kind = 1) || decide (kind = 2)) && namedF index (decide (kind = 2)) && (decide (join = []) || (decide (kind = 7) && nameL join))) := rfl
  have HF := Lib.hid hF; clear hF
  have hk : kind = 1 ∨ kind = 2 ∨ kind = 7 ∨ (kind ≤ 7 ∧ ¬ kind = 1 ∧ ¬ kind = 2 ∧ ¬ kind = 7) ∨ 7 < kind := by omega
  rcases hk with rfl | rfl | rfl | ⟨h7, g1, g2, g7⟩ | h7
  · have h_ := trivial
    by_cases htable : table = []
    · simp (maxSteps:=1000000) (disch:=omega) only [sh_ref04_names,encSm,decide_true,decide_false,go_sem, *]
      intro n_ hn_
      rw [← HR.out]; exact RC_ret rfl (by rw [HF.out]; simp [namedF, nm0, htable])
    · have htable_ := htable
      by_cases hkey : key = []
      · simp (maxSteps:=1000000) (disch:=omega) only [sh_ref04_names,encSm,decide_true,decide_false,go_sem, *]
        intro n_ hn_
        rw [← HR.out]; exact RC_ret rfl (by rw [HF.out]; simp [namedF, nm0, htable, hkey])
      · have hkey_ := hkey
        by_cases hindex : index = []
        · have hindex_ := hindex
          by_cases hjoin : join = []
          · simp (maxSteps:=1000000) (disch:=omega) only [sh_ref04_names,encSm,decide_true,decide_false,go_sem, *]
            intro n_ hn_
            have hc := H1.out
            cases hntable : nameL table <;> rw [hntable] at hc
            · refine CALL_con0 hc rfl ?_
              simp (maxSteps:=1000000) (disch:=omega) only [decide_true,decide_false,go_sem, *]
              rw [← HR.out]; exact RC_ret rfl (by rw [HF.out]; simp [namedF, nm0, htable, hkey, hindex, hjoin, hntable])
            · refine CALL_con0 hc rfl ?_
              simp (maxSteps:=1000000) (disch:=omega) only [decide_true,decide_false,go_sem, *]
              have hc := H2.out
              cases hnkey : nameL key <;> rw [hnkey] at hc
              · refine CALL_con0 hc rfl ?_
                simp (maxSteps:=1000000) (disch:=omega) only [decide_true,decide_false,go_sem, *]
                rw [← HR.out]; exact RC_ret rfl (by rw [HF.out]; simp [namedF, nm0, htable, hkey, hindex, hjoin, hntable, hnkey])
              · refine CALL_con0 hc rfl ?_
                simp (maxSteps:=1000000) (disch:=omega) only [decide_true,decide_false,go_sem, *]
                rw [← HR.out]; exact RC_ret rfl (by rw [HF.out]; simp [namedF, nm0, htable, hkey, hindex, hjoin, hntable, hnkey])
          · simp (maxSteps:=1000000) (disch:=omega) only [sh_ref04_names,encSm,decide_true,decide_false,go_sem, *]
            intro n_ hn_
            have hc := H1.out
            cases hntable : nameL table <;> rw [hntable] at hc
            · refine CALL_con0 hc rfl ?_
              simp (maxSteps:=1000000) (disch:=omega) only [decide_true,decide_false,go_sem, *]
              rw [← HR.out]; exact RC_ret rfl (by rw [HF.out]; simp [namedF, nm0, htable, hkey, hindex, hjoin, hntable])
            · refine CALL_con0 hc rfl ?_
              simp (maxSteps:=1000000) (disch:=omega) only [decide_true,decide_false,go_sem, *]
              have hc := H2.out
              cases hnkey : nameL key <;> rw [hnkey] at hc
              · refine CALL_con0 hc rfl ?_
                simp (maxSteps:=1000000) (disch:=omega) only [decide_true,decide_false,go_sem, *]
                rw [← HR.out]; exact RC_ret rfl (by rw [HF.out]; simp [namedF, nm0, htable, hkey, hindex, hjoin, hntable, hnkey])
              · refine CALL_con0 hc rfl ?_
                simp (maxSteps:=1000000) (disch:=omega) only [decide_true,decide_false,go_sem, *]
                rw [← HR.out]; exact RC_ret rfl (by rw [HF.out]; simp [namedF, nm0, htable, hkey, hindex, hjoin, hntable, hnkey])
        · simp (maxSteps:=1000000) (disch:=omega) only [sh_ref04_names,encSm,decide_true,decide_false,go_sem, *]
          intro n_ hn_
          rw [← HR.out]; exact RC_ret rfl (by rw [HF.out]; simp [namedF, nm0, htable, hkey, hindex])
  · have h_ := trivial
    by_cases htable : table = []
    · simp (maxSteps:=1000000) (disch:=omega) only [sh_ref04_names,encSm,decide_true,decide_false,go_sem, *]
      intro n_ hn_
      rw [← HR.out]; exact RC_ret rfl (by rw [HF.out]; simp [namedF, nm0, htable])
    · have htable_ := htable
      by_cases hkey : key = []
      · simp (maxSteps:=1000000) (disch:=omega) only [sh_ref04_names,encSm,decide_true,decide_false,go_sem, *]
        intro n_ hn_
        rw [← HR.out]; exact RC_ret rfl (by rw [HF.out]; simp [namedF, nm0, htable, hkey])
      · have hkey_ := hkey
        by_cases hindex : index = []
        · simp (maxSteps:=1000000) (disch:=omega) only [sh_ref04_names,encSm,decide_true,decide_false,go_sem, *]
          intro n_ hn_
          rw [← HR.out]; exact RC_ret rfl (by rw [HF.out]; simp [namedF, nm0, htable, hkey, hindex])
        · have hindex_ := hindex
          by_cases hjoin : join = []
          · simp (maxSteps:=1000000) (disch:=omega) only [sh_ref04_names,encSm,decide_true,decide_false,go_sem, *]
            intro n_ hn_
            have hc := H1.out
            cases hntable : nameL table <;> rw [hntable] at hc
            · refine CALL_con0 hc rfl ?_
              simp (maxSteps:=1000000) (disch:=omega) only [decide_true,decide_false,go_sem, *]
              rw [← HR.out]; exact RC_ret rfl (by rw [HF.out]; simp [namedF, nm0, htable, hkey, hindex, hjoin, hntable])
            · refine CALL_con0 hc rfl ?_
              simp (maxSteps:=1000000) (disch:=omega) only [decide_true,decide_false,go_sem, *]
              have hc := H2.out
              cases hnkey : nameL key <;> rw [hnkey] at hc
              · refine CALL_con0 hc rfl ?_
                simp (maxSteps:=1000000) (disch:=omega) only [decide_true,decide_false,go_sem, *]
                rw [← HR.out]; exact RC_ret rfl (by rw [HF.out]; simp [namedF, nm0, htable, hkey, hindex, hjoin, hntable, hnkey])
              · refine CALL_con0 hc rfl ?_
                simp (maxSteps:=1000000) (disch:=omega) only [decide_true,decide_false,go_sem, *]
                have hc := H3.out
                cases hnindex : nameL index <;> rw [hnindex] at hc
                · refine CALL_con0 hc rfl ?_
                  simp (maxSteps:=1000000) (disch:=omega) only [decide_true,decide_false,go_sem, *]
                  rw [← HR.out]; exact RC_ret rfl (by rw [HF.out]; simp [namedF, nm0, htable, hkey, hindex, hjoin, hntable, hnkey, hnindex])
                · refine CALL_con0 hc rfl ?_
                  simp (maxSteps:=1000000) (disch:=omega) only [decide_true,decide_false,go_sem, *]
                  rw [← HR.out]; exact RC_ret rfl (by rw [HF.out]; simp [namedF, nm0, htable, hkey, hindex, hjoin, hntable, hnkey, hnindex])
          · simp (maxSteps:=1000000) (disch:=omega) only [sh_ref04_names,encSm,decide_true,decide_false,go_sem, *]
            intro n_ hn_
            have hc := H1.out
            cases hntable : nameL table <;> rw [hntable] at hc
            · refine CALL_con0 hc rfl ?_
              simp (maxSteps:=1000000) (disch:=omega) only [decide_true,decide_false,go_sem, *]
              rw [← HR.out]; exact RC_ret rfl (by rw [HF.out]; simp [namedF, nm0, htable, hkey, hindex, hjoin, hntable])
            · refine CALL_con0 hc rfl ?_
              simp (maxSteps:=1000000) (disch:=omega) only [decide_true,decide_false,go_sem, *]
              have hc := H2.out
              cases hnkey : nameL key <;> rw [hnkey] at hc
              · refine CALL_con0 hc rfl ?_
                simp (maxSteps:=1000000) (disch:=omega) only [decide_true,decide_false,go_sem, *]
                rw [← HR.out]; exact RC_ret rfl (by rw [HF.out]; simp [namedF, nm0, htable, hkey, hindex, hjoin, hntable, hnkey])
              · refine CALL_con0 hc rfl ?_
                simp (maxSteps:=1000000) (disch:=omega) only [decide_true,decide_false,go_sem, *]
                have hc := H3.out
                cases hnindex : nameL index <;> rw [hnindex] at hc
                · refine CALL_con0 hc rfl ?_
                  simp (maxSteps:=1000000) (disch:=omega) only [decide_true,decide_false,go_sem, *]
                  rw [← HR.out]; exact RC_ret rfl (by rw [HF.out]; simp [namedF, nm0, htable, hkey, hindex, hjoin, hntable, hnkey, hnindex])
                · refine CALL_con0 hc rfl ?_
                  simp (maxSteps:=1000000) (disch:=omega) only [decide_true,decide_false,go_sem, *]
                  rw [← HR.out]; exact RC_ret rfl (by rw [HF.out]; simp [namedF, nm0, htable, hkey, hindex, hjoin, hntable, hnkey, hnindex])
  · have h_ := trivial
    by_cases htable : table = []
    · simp (maxSteps:=1000000) (disch:=omega) only [sh_ref04_names,encSm,decide_true,decide_false,go_sem, *]
      intro n_ hn_
      rw [← HR.out]; exact RC_ret rfl (by rw [HF.out]; simp [namedF, nm0, htable])
    · have htable_ := htable
      by_cases hkey : key = []
      · have hkey_ := hkey
        by_cases hindex : index = []
        · have hindex_ := hindex
          by_cases hjoin : join = []
          · simp (maxSteps:=1000000) (disch:=omega) only [sh_ref04_names,encSm,decide_true,decide_false,go_sem, *]
            intro n_ hn_
            have hc := H1.out
            cases hntable : nameL table <;> rw [hntable] at hc
            · refine CALL_con0 hc rfl ?_
              simp (maxSteps:=1000000) (disch:=omega) only [decide_true,decide_false,go_sem, *]
              rw [← HR.out]; exact RC_ret rfl (by rw [HF.out]; simp [namedF, nm0, htable, hkey, hindex, hjoin, hntable])
            · refine CALL_con0 hc rfl ?_
              simp (maxSteps:=1000000) (disch:=omega) only [decide_true,decide_false,go_sem, *]
              rw [← HR.out]; exact RC_ret rfl (by rw [HF.out]; simp [namedF, nm0, htable, hkey, hindex, hjoin, hntable])
          · simp (maxSteps:=1000000) (disch:=omega) only [sh_ref04_names,encSm,decide_true,decide_false,go_sem, *]
            intro n_ hn_
            have hc := H1.out
            cases hntable : nameL table <;> rw [hntable] at hc
            · refine CALL_con0 hc rfl ?_
              simp (maxSteps:=1000000) (disch:=omega) only [decide_true,decide_false,go_sem, *]
              rw [← HR.out]; exact RC_ret rfl (by rw [HF.out]; simp [namedF, nm0, htable, hkey, hindex, hjoin, hntable])
            · refine CALL_con0 hc rfl ?_
              simp (maxSteps:=1000000) (disch:=omega) only [decide_true,decide_false,go_sem, *]
              have hc := H4.out
              cases hnjoin : nameL join <;> rw [hnjoin] at hc
              · refine CALL_con0 hc rfl ?_
                simp (maxSteps:=1000000) (disch:=omega) only [decide_true,decide_false,go_sem, *]
                rw [← HR.out]; exact RC_ret rfl (by rw [HF.out]; simp [namedF, nm0, htable, hkey, hindex, hjoin, hntable, hnjoin])
              · refine CALL_con0 hc rfl ?_
                simp (maxSteps:=1000000) (disch:=omega) only [decide_true,decide_false,go_sem, *]
                rw [← HR.out]; exact RC_ret rfl (by rw [HF.out]; simp [namedF, nm0, htable, hkey, hindex, hjoin, hntable, hnjoin])
        · simp (maxSteps:=1000000) (disch:=omega) only [sh_ref04_names,encSm,decide_true,decide_false,go_sem, *]
          intro n_ hn_
          rw [← HR.out]; exact RC_ret rfl (by rw [HF.out]; simp [namedF, nm0, htable, hkey, hindex])
      · simp (maxSteps:=1000000) (disch:=omega) only [sh_ref04_names,encSm,decide_true,decide_false,go_sem, *]
        intro n_ hn_
        rw [← HR.out]; exact RC_ret rfl (by rw [HF.out]; simp [namedF, nm0, htable, hkey])
  · have h_ := trivial
    by_cases htable : table = []
    · simp (maxSteps:=1000000) (disch:=omega) only [sh_ref04_names,encSm,decide_true,decide_false,go_sem, *]
      intro n_ hn_
      rw [← HR.out]; exact RC_ret rfl (by rw [HF.out]; simp [namedF, nm0, h7, g1, g2, g7, htable])
    · have htable_ := htable
      by_cases hkey : key = []
      · have hkey_ := hkey
        by_cases hindex : index = []
        · have hindex_ := hindex
          by_cases hjoin : join = []
          · simp (maxSteps:=1000000) (disch:=omega) only [sh_ref04_names,encSm,decide_true,decide_false,go_sem, *]
            intro n_ hn_
            have hc := H1.out
            cases hntable : nameL table <;> rw [hntable] at hc
            · refine CALL_con0 hc rfl ?_
              simp (maxSteps:=1000000) (disch:=omega) only [decide_true,decide_false,go_sem, *]
              rw [← HR.out]; exact RC_ret rfl (by rw [HF.out]; simp [namedF, nm0, h7, g1, g2, g7, htable, hkey, hindex, hjoin, hntable])
            · refine CALL_con0 hc rfl ?_
              simp (maxSteps:=1000000) (disch:=omega) only [decide_true,decide_false,go_sem, *]
              rw [← HR.out]; exact RC_ret rfl (by rw [HF.out]; simp [namedF, nm0, h7, g1, g2, g7, htable, hkey, hindex, hjoin, hntable])
          · simp (maxSteps:=1000000) (disch:=omega) only [sh_ref04_names,encSm,decide_true,decide_false,go_sem, *]
            intro n_ hn_
            have hc := H1.out
            cases hntable : nameL table <;> rw [hntable] at hc
            · refine CALL_con0 hc rfl ?_
              simp (maxSteps:=1000000) (disch:=omega) only [decide_true,decide_false,go_sem, *]
              rw [← HR.out]; exact RC_ret rfl (by rw [HF.out]; simp [namedF, nm0, h7, g1, g2, g7, htable, hkey, hindex, hjoin, hntable])
            · refine CALL_con0 hc rfl ?_
              simp (maxSteps:=1000000) (disch:=omega) only [decide_true,decide_false,go_sem, *]
              rw [← HR.out]; exact RC_ret rfl (by rw [HF.out]; simp [namedF, nm0, h7, g1, g2, g7, htable, hkey, hindex, hjoin, hntable])
        · simp (maxSteps:=1000000) (disch:=omega) only [sh_ref04_names,encSm,decide_true,decide_false,go_sem, *]
          intro n_ hn_
          rw [← HR.out]; exact RC_ret rfl (by rw [HF.out]; simp [namedF, nm0, h7, g1, g2, g7, htable, hkey, hindex])
      · simp (maxSteps:=1000000) (disch:=omega) only [sh_ref04_names,encSm,decide_true,decide_false,go_sem, *]
        intro n_ hn_
        rw [← HR.out]; exact RC_ret rfl (by rw [HF.out]; simp [namedF, nm0, h7, g1, g2, g7, htable, hkey])
  · have h_ := trivial
    have g1 : ¬ kind = 1 := by omega
    have g2 : ¬ kind = 2 := by omega
    have g7 : ¬ kind = 7 := by omega
    have h7 : ¬ kind ≤ 7 := by omega
    by_cases htable : table = []
    · have htable_ := htable
      by_cases hkey : key = []
      · have hkey_ := hkey
        by_cases hindex : index = []
        · have hindex_ := hindex
          by_cases hjoin : join = []
          · simp (maxSteps:=1000000) (disch:=omega) only [sh_ref04_names,encSm,decide_true,decide_false,go_sem, *]
            intro n_ hn_
            rw [← HR.out]; exact RC_ret rfl (by rw [HF.out]; simp [namedF, nm0, h7, g1, g2, g7, htable, hkey, hindex, hjoin])
          · simp (maxSteps:=1000000) (disch:=omega) only [sh_ref04_names,encSm,decide_true,decide_false,go_sem, *]
            intro n_ hn_
            rw [← HR.out]; exact RC_ret rfl (by rw [HF.out]; simp [namedF, nm0, h7, g1, g2, g7, htable, hkey, hindex, hjoin])
        · simp (maxSteps:=1000000) (disch:=omega) only [sh_ref04_names,encSm,decide_true,decide_false,go_sem, *]
          intro n_ hn_
          rw [← HR.out]; exact RC_ret rfl (by rw [HF.out]; simp [namedF, nm0, h7, g1, g2, g7, htable, hkey, hindex])
      · simp (maxSteps:=1000000) (disch:=omega) only [sh_ref04_names,encSm,decide_true,decide_false,go_sem, *]
        intro n_ hn_
        rw [← HR.out]; exact RC_ret rfl (by rw [HF.out]; simp [namedF, nm0, h7, g1, g2, g7, htable, hkey])
    · simp (maxSteps:=1000000) (disch:=omega) only [sh_ref04_names,encSm,decide_true,decide_false,go_sem, *]
      intro n_ hn_
      rw [← HR.out]; exact RC_ret rfl (by rw [HF.out]; simp [namedF, nm0, h7, g1, g2, g7, htable])
--names--
end Go.Proofs.YtodoejfkjimeaaaGreatDoor

set_option linter.unusedSimpArgs false
set_option linter.unusedVariables false
set_option maxRecDepth 100000
namespace Go.Proofs.YtodoejfkjimeaaaGreatDoor
open Go Go.RowKit Am
attribute [-go_sem] guardP_if guardK_if guardD_if COND_bool
attribute [local go_sem low] guardP_if guardK_if guardD_if COND_bool
attribute [local go_sem] wrapI wrapB upd_is upd_not Nat.zero_add Nat.add_zero
attribute [local go_sem_proc] Nat.reduceAdd Nat.reduceSub Nat.reduceMul Nat.reduceLeDiff Nat.reduceEqDiff Int.reduceAdd Int.reduceSub Int.reduceMul Int.reduceNeg Int.reduceLT Int.reduceLE Int.reduceEq Int.reduceToNat reduceCtorEq reduceIte
def lstF (x : Sm) : Bool := !x.columns.any colBad && !x.rows.any rowBad && !x.sets.any setBad && !x.order.any ordBad
theorem any_no {α : Type} {q : α → Bool} {l : List α} {i : Nat} {x : α} (hx : l[i]? = some x) (h0 : (l.take i).any q = false) (h : q x = false) : (l.take (i + 1)).any q = false := by rw [any_take hx, h0, h]; rfl
set_option maxHeartbeats 8000000 in
theorem rfLists_con (x : Sm) (hb : SBd x) : Con Tryz.prog 29 [.ag (encSm x)] (.ret (.sc (.bool (lstF x)))) := by
  refine con_of (by_ref04_lists ?_)
  generalize hR : RC _ = R
  have HR := Lib.hid hR; clear hR
  have e2 := hb.cols; have e5 := hb.rows; have e6 := hb.sets; have e12 := hb.order
  have e5' := fun l hl => (hb.row l hl).len
  have HC := Lib.hid (fun c hc => rfName_con (Cl.name c) (hb.col c hc))
  have HS := Lib.hid (fun s hs => rfName_con (Se.name s) (hb.set s hs).1)
  have HE5 := Lib.hid e5'; clear e5' hb
  obtain ⟨kind, table, columns, key, index, rows, sets, items, join, on, wh, group, order, limit⟩ := x
  simp only at HC HS e2 e5 e6 e12 HE5
  have hF : lstF ⟨kind, table, columns, key, index, rows, sets, items, join, on, wh, group, order, limit⟩ = (!columns.any colBad && !rows.any rowBad && !sets.any setBad && !order.any ordBad) := rfl
  have HF := Lib.hid hF; clear hF
  simp (maxSteps:=1000000) (disch:=omega) only [sh_ref04_lists,encSm,go_sem, *]
  generalize hσ : upd _ _ _ = σ
  have h0 : σ 0 = some (.c ⟨14, [[.sc (.int .i64 kind), .s table, .tr (columns.map encC), .s key, .s index, .tr (rows.map encRx), .tr (sets.map encS), .tr (items.map encE), .s join, .tr (on.map encE), .tr (wh.map encE), .tr (group.map encE), .tr (order.map encO), .sc (.int .i64 limit)]], true, false⟩) := by rw [← hσ]; exact upd_is rfl
  clear hσ
  refine LOOP_list columns (fun i st => ∃ a b c, st = [a, b, c, .sc (.int .i64 i)] ∧ (columns.take i).any colBad = false) ⟨_, _, _, rfl, rfl⟩ ?_ ?_
  · rintro i c K st n' hx hi hi' hn ⟨x0, x1, x2, rfl, h1⟩ hK
    have HK := Lib.hid hK; clear hK
    have HN := Lib.hid (any_no hx h1)
    have HY := Lib.hid (any_stop (q := colBad) hx)
    have HX := Lib.hid (HC.out c (List.mem_of_getElem? hx)); clear h1
    simp (maxSteps:=1000000) (disch:=omega) only [lb_ref04_lists6,List.getD_cons_succ,List.getD_cons_zero,decide_true,decide_false,encC,go_sem, *]
    intro _
    refine CALL_con0 HX.out rfl ?_
    have hb : colBad c = true ∨ colBad c = false := by cases colBad c <;> simp
    have hcb : colBad c = (!nameL c.name || decide (c.kind < 1) || decide (3 < c.kind)) := rfl
    rcases hb with hb | hb
    · have HY' := Lib.hid (HY.out hb); clear HY HN
      rw [hb] at hcb
      cases hn1 : nameL c.name
      · clear hcb
        simp (maxSteps:=1000000) (disch:=omega) only [List.getD_cons_succ,List.getD_cons_zero,decide_true,decide_false,encC,go_sem, *]
        rw [← HR.out]; exact RC_ret rfl (by rw [HF.out, HY'.out]; rfl)
      · by_cases hk : c.kind < 1
        · clear hcb
          simp (maxSteps:=1000000) (disch:=omega) only [List.getD_cons_succ,List.getD_cons_zero,decide_true,decide_false,encC,go_sem, *]
          rw [← HR.out]; exact RC_ret rfl (by rw [HF.out, HY'.out]; rfl)
        · have hk3 : 3 < c.kind := by simpa [hn1, hk] using hcb
          clear hcb
          simp (maxSteps:=1000000) (disch:=omega) only [List.getD_cons_succ,List.getD_cons_zero,decide_true,decide_false,encC,go_sem, *]
          rw [← HR.out]; exact RC_ret rfl (by rw [HF.out, HY'.out]; rfl)
    · have HN' := Lib.hid (HN.out hb); clear HY HN
      rw [hb] at hcb
      have hcb' := hcb.symm
      simp only [Bool.or_eq_false_iff, Bool.not_eq_false', decide_eq_false_iff_not] at hcb'
      obtain ⟨⟨hn1, hk1⟩, hk3⟩ := hcb'
      clear hcb
      simp (maxSteps:=1000000) (disch:=omega) only [List.getD_cons_succ,List.getD_cons_zero,decide_true,decide_false,encC,go_sem, *]
      exact HK.out _ _ (Nat.le_refl _) ⟨_, _, _, rfl, HN'.out⟩
  · rintro K st n' hn ⟨x0, x1, x2, rfl, hcols⟩
    rw [List.take_length] at hcols
    have HF1 := HF.out
    rw [hcols] at HF1
    have HF1' := Lib.hid HF1; clear HF1 HF
    clear hcols
    simp (maxSteps:=1000000) (disch:=omega) only [lb_ref04_lists6,List.getD_cons_succ,List.getD_cons_zero,decide_true,decide_false,Int.lt_irrefl,go_sem, *]
    intro _
    refine LOOP_list rows (fun i st => ∃ a b c, st = [a, b, c, .sc (.int .i64 i)] ∧ (rows.take i).any rowBad = false) ⟨_, _, _, rfl, rfl⟩ ?_ ?_
    · rintro i l K st n'' hx hi hi' hn ⟨x0, x1, x2, rfl, h1⟩ hK
      have HK := Lib.hid hK; clear hK
      have HN := Lib.hid (any_no hx h1)
      have HY := Lib.hid (any_stop (q := rowBad) hx)
      have hl := HE5.out l (List.mem_of_getElem? hx); clear h1
      have hb : rowBad l = true ∨ rowBad l = false := by cases rowBad l <;> simp
      have hcb : rowBad l = (decide ((l.length : Int) < 1) || decide (8 < (l.length : Int))) := rfl
      rcases hb with hb | hb
      · have HY' := Lib.hid (HY.out hb); clear HY HN
        rw [hb] at hcb
        by_cases hk : (l.length : Int) < 1
        · clear hcb
          simp (maxSteps:=1000000) (disch:=omega) only [lb_ref04_lists5,List.getD_cons_succ,List.getD_cons_zero,decide_true,decide_false,encRx,List.map_map,go_sem, *]
          intro _ _
          rw [← HR.out]; exact RC_ret rfl (by rw [HF1'.out, HY'.out]; rfl)
        · have hk3 : 8 < (l.length : Int) := by simpa [hk] using hcb
          clear hcb
          simp (maxSteps:=1000000) (disch:=omega) only [lb_ref04_lists5,List.getD_cons_succ,List.getD_cons_zero,decide_true,decide_false,encRx,List.map_map,go_sem, *]
          intro _ _
          rw [← HR.out]; exact RC_ret rfl (by rw [HF1'.out, HY'.out]; rfl)
      · have HN' := Lib.hid (HN.out hb); clear HY HN
        rw [hb] at hcb
        have hcb' := hcb.symm
        simp only [Bool.or_eq_false_iff, decide_eq_false_iff_not] at hcb'
        obtain ⟨hk1, hk3⟩ := hcb'
        clear hcb
        simp (maxSteps:=1000000) (disch:=omega) only [lb_ref04_lists5,List.getD_cons_succ,List.getD_cons_zero,decide_true,decide_false,encRx,List.map_map,go_sem, *]
        intro _ _
        exact HK.out _ _ (Nat.le_refl _) ⟨_, _, _, rfl, HN'.out⟩
    · rintro K st n' hn ⟨x0, x1, x2, rfl, hrows⟩
      rw [List.take_length] at hrows
      have HF2 := HF1'.out
      rw [hrows] at HF2
      have HF2' := Lib.hid HF2; clear HF2 HF1'
      clear hrows
      simp (maxSteps:=1000000) (disch:=omega) only [lb_ref04_lists5,List.getD_cons_succ,List.getD_cons_zero,decide_true,decide_false,Int.lt_irrefl,go_sem, *]
      intro _
      refine LOOP_list sets (fun i st => ∃ a b c, st = [a, b, c, .sc (.int .i64 i)] ∧ (sets.take i).any setBad = false) ⟨_, _, _, rfl, rfl⟩ ?_ ?_
      · rintro i s K st n'' hx hi hi' hn ⟨x0, x1, x2, rfl, h1⟩ hK
        have HK := Lib.hid hK; clear hK
        have HN := Lib.hid (any_no hx h1)
        have HY := Lib.hid (any_stop (q := setBad) hx)
        have HX := Lib.hid (HS.out s (List.mem_of_getElem? hx)); clear h1
        have hen : (encS s)[0]? = some (.s s.name) := rfl
        simp (maxSteps:=1000000) (disch:=omega) only [lb_ref04_lists4,List.getD_cons_succ,List.getD_cons_zero,decide_true,decide_false,go_sem, *]
        intro _
        refine CALL_con0 HX.out rfl ?_
        cases hn1 : nameL s.name
        · have HY' := Lib.hid (HY.out (by rw [setBad, hn1]; rfl)); clear HY HN
          simp (maxSteps:=1000000) (disch:=omega) only [decide_true,decide_false,go_sem, *]
          rw [← HR.out]; exact RC_ret rfl (by rw [HF2'.out, HY'.out]; rfl)
        · have HN' := Lib.hid (HN.out (by rw [setBad, hn1]; rfl)); clear HY HN
          simp (maxSteps:=1000000) (disch:=omega) only [decide_true,decide_false,go_sem, *]
          exact HK.out _ _ (Nat.le_refl _) ⟨_, _, _, rfl, HN'.out⟩
      · rintro K st n' hn ⟨x0, x1, x2, rfl, hsets⟩
        rw [List.take_length] at hsets
        have HF3 := HF2'.out
        rw [hsets] at HF3
        have HF3' := Lib.hid HF3; clear HF3 HF2'
        clear hsets
        simp (maxSteps:=1000000) (disch:=omega) only [lb_ref04_lists4,List.getD_cons_succ,List.getD_cons_zero,decide_true,decide_false,Int.lt_irrefl,go_sem, *]
        intro _
        refine LOOP_list order (fun i st => ∃ a b c, st = [a, b, c, .sc (.int .i64 i)] ∧ (order.take i).any ordBad = false) ⟨_, _, _, rfl, rfl⟩ ?_ ?_
        · rintro i o K st n'' hx hi hi' hn ⟨x0, x1, x2, rfl, h1⟩ hK
          have HK := Lib.hid hK; clear hK
          have HN := Lib.hid (any_no hx h1)
          have HY := Lib.hid (any_stop (q := ordBad) hx); clear h1
          have hb : ordBad o = true ∨ ordBad o = false := by cases ordBad o <;> simp
          have hcb : ordBad o = (decide (o.n < 1) || decide (16 < o.n)) := rfl
          rcases hb with hb | hb
          · have HY' := Lib.hid (HY.out hb); clear HY HN
            rw [hb] at hcb
            by_cases hk : o.n < 1
            · clear hcb
              simp (maxSteps:=1000000) (disch:=omega) only [lb_ref04_lists3,List.getD_cons_succ,List.getD_cons_zero,decide_true,decide_false,encO,go_sem, *]
              intro _
              rw [← HR.out]; exact RC_ret rfl (by rw [HF3'.out, HY'.out]; rfl)
            · have hk3 : 16 < o.n := by simpa [hk] using hcb
              clear hcb
              simp (maxSteps:=1000000) (disch:=omega) only [lb_ref04_lists3,List.getD_cons_succ,List.getD_cons_zero,decide_true,decide_false,encO,go_sem, *]
              intro _
              rw [← HR.out]; exact RC_ret rfl (by rw [HF3'.out, HY'.out]; rfl)
          · have HN' := Lib.hid (HN.out hb); clear HY HN
            rw [hb] at hcb
            have hcb' := hcb.symm
            simp only [Bool.or_eq_false_iff, decide_eq_false_iff_not] at hcb'
            obtain ⟨hk1, hk3⟩ := hcb'
            clear hcb
            simp (maxSteps:=1000000) (disch:=omega) only [lb_ref04_lists3,List.getD_cons_succ,List.getD_cons_zero,decide_true,decide_false,encO,go_sem, *]
            intro _
            exact HK.out _ _ (Nat.le_refl _) ⟨_, _, _, rfl, HN'.out⟩
        · rintro K st n' hn ⟨x0, x1, x2, rfl, hord⟩
          rw [List.take_length] at hord
          have HF4 := HF3'.out
          rw [hord] at HF4
          have HF4' := Lib.hid HF4; clear HF4 HF3'
          clear hord
          simp (maxSteps:=1000000) (disch:=omega) only [lb_ref04_lists3,List.getD_cons_succ,List.getD_cons_zero,decide_true,decide_false,Int.lt_irrefl,go_sem, *]
          intro _
          rw [← HR.out]; exact RC_ret rfl (by rw [HF4'.out]; rfl)
end Go.Proofs.YtodoejfkjimeaaaGreatDoor

set_option linter.unusedSimpArgs false
set_option linter.unusedVariables false
set_option maxRecDepth 100000
namespace Go.Proofs.YtodoejfkjimeaaaGreatDoor
open Go Go.RowKit Am
attribute [-go_sem] guardP_if guardK_if guardD_if COND_bool
attribute [local go_sem low] guardP_if guardK_if guardD_if COND_bool
attribute [local go_sem] wrapI wrapB upd_is upd_not Nat.zero_add Nat.add_zero
attribute [local go_sem_proc] Nat.reduceAdd Nat.reduceSub Nat.reduceMul Nat.reduceLeDiff Nat.reduceEqDiff Int.reduceAdd Int.reduceSub Int.reduceMul Int.reduceNeg Int.reduceLT Int.reduceLE Int.reduceEq Int.reduceToNat reduceCtorEq reduceIte
def limF (x : Sm) : Bool := if x.kind = 7 then decide (-1 ≤ x.limit) && decide (x.limit ≤ 2147483648) else decide (x.limit = 0)
def joinF (x : Sm) : Bool := decide (x.join ≠ []) == decide (0 < (x.on.length : Int))
theorem countF_iff (n m : Int) (a : Bool) (l : Int) : countF n m a l = true ↔ ((a = true → l ≤ n ∧ n ≤ m) ∧ (a = false → n = 0)) := by
  cases a <;> simp [countF]
set_option maxHeartbeats 4000000 in
theorem shape_ref (x : Sm) (h1 : 1 ≤ x.kind) (h2 : x.kind ≤ 10) : shapeF x = (countsF x && namesF x && lstF x && limF x && joinF x) := by
  obtain ⟨kind, table, columns, key, index, rows, sets, items, join, on, wh, group, order, limit⟩ := x
  simp only at h1 h2
  have hn : ∀ n m p : Bool, (n && m && p && (decide (join = []) || (decide (kind = 7) && nameL join))) = true → (join = [] ∨ kind = 7) := by
    intro n m p h
    simp at h
    rcases h.2 with h | h
    · exact .inl h
    · exact .inr h.1
  simp only [shapeF, countsF, cntF, lensF, namesF, lstF, limF, joinF]
  have hn' := hn (namedF table (decide (kind ≤ 7))) (namedF key (decide (kind = 1) || decide (kind = 2))) (namedF index (decide (kind = 2)))
  clear hn
  generalize (namedF table (decide (kind ≤ 7)) && namedF key (decide (kind = 1) || decide (kind = 2)) && namedF index (decide (kind = 2)) && (decide (join = []) || (decide (kind = 7) && nameL join))) = N at *
  generalize columns.any colBad = c1
  generalize rows.any rowBad = c2
  generalize sets.any setBad = c3
  generalize order.any ordBad = c4
  generalize (columns.length : Int) = l1
  generalize (rows.length : Int) = l2
  generalize (sets.length : Int) = l3
  generalize (items.length : Int) = l4
  generalize (wh.length : Int) = l6
  generalize (group.length : Int) = l7
  generalize (order.length : Int) = l8
  have l5 : 0 ≤ (on.length : Int) := by omega
  generalize (on.length : Int) = l5 at *
  have hj : join = [] ∨ join ≠ [] := Classical.em _
  rw [Bool.eq_iff_iff]
  have hk : kind = 1 ∨ kind = 2 ∨ kind = 3 ∨ kind = 4 ∨ kind = 5 ∨ kind = 6 ∨ kind = 7 ∨ kind = 8 ∨ kind = 9 ∨ kind = 10 := by omega
  rcases hj with hj | hj
  · rcases hk with rfl | rfl | rfl | rfl | rfl | rfl | rfl | rfl | rfl | rfl
    all_goals
      simp [bdsF, cntOk, countF_iff, hj]
      constructor <;> intro h <;> and_intros <;> first | omega | simp_all
  · rcases hk with rfl | rfl | rfl | rfl | rfl | rfl | rfl | rfl | rfl | rfl
    all_goals
      simp [hj] at hn'
      simp [bdsF, cntOk, countF_iff, hj]
      first
      | (constructor <;> intro h <;> and_intros <;> first | omega | (simp_all; done))
      | (constructor <;> intro h <;> exact absurd (hn' (by simp_all)) (by omega))
      | (constructor <;> intro h <;> simp_all)
theorem smBrw (σ : Hp) (d : Nat) (x : Sm) : brwL σ d (encSm x) = some (encSm x, []) := by
  simp only [encSm, brwL_cons, brwL_nil, brw_ag, brw_sc, brw_tr, brw_s, List.append_nil, Option.map_some, List.nil_append]
theorem firstBad_flat (x : Sm) : firstBad (listsF x).flatten = (if firstBad x.rows.flatten ≠ 0 then firstBad x.rows.flatten else if firstBad (x.sets.map (·.ex)) ≠ 0 then firstBad (x.sets.map (·.ex)) else firstBad ([x.items, x.on, x.where_, x.group].flatten)) := by
  have h1 : (x.sets.map (fun s => [s.ex])).flatten = x.sets.map (·.ex) := by
    induction x.sets with
    | nil => rfl
    | cons s l ih => simp only [List.map_cons, List.flatten_cons, ih]; rfl
  rw [listsF, List.flatten_append, List.flatten_append, h1, firstBad_append, firstBad_append]
  by_cases h2 : firstBad x.rows.flatten = 0
  · by_cases h3 : firstBad (x.sets.map (·.ex)) = 0 <;> simp [h2, h3]
  · simp [h2]
theorem flat_next {L : List (List Ep)} {i : Nat} {l : List Ep} (hx : L[i]? = some l) (h : firstBad (L.take i).flatten = 0) : firstBad (L.take (i + 1)).flatten = firstBad l := by
  rw [flat_take hx, firstBad_append, if_pos h]
theorem flat_stop {L : List (List Ep)} {i : Nat} {l : List Ep} (hx : L[i]? = some l) (h : firstBad (L.take i).flatten = 0) (h2 : firstBad l ≠ 0) : firstBad L.flatten = firstBad l := by
  rw [flat_split hx, firstBad_append, if_pos h, firstBad_append, if_neg h2]
theorem sets_next {L : List Se} {i : Nat} {s : Se} (hx : L[i]? = some s) (h : firstBad ((L.take i).map (·.ex)) = 0) : firstBad ((L.take (i + 1)).map (·.ex)) = exErr s.ex := by
  rw [List.take_add_one, hx, List.map_append, firstBad_append, if_pos h]
  simp only [Option.toList, List.map_cons, List.map_nil, firstBad]
  split <;> simp_all
theorem sets_stop {L : List Se} {i : Nat} {s : Se} (hx : L[i]? = some s) (h : firstBad ((L.take i).map (·.ex)) = 0) (h2 : exErr s.ex ≠ 0) : firstBad (L.map (·.ex)) = exErr s.ex := by
  have h3 := sets_next hx h
  have : L.map (·.ex) = (L.take (i + 1)).map (·.ex) ++ (L.drop (i + 1)).map (·.ex) := by rw [← List.map_append, List.take_append_drop]
  rw [this, firstBad_append, h3, if_neg h2]
set_option maxHeartbeats 8000000 in
theorem rfSCheck_con (x : Sm) (hb : SBd x) (hg : SRg x) : Con Tryz.prog 9 [.ag (encSm x)] (.ret (.sc (.int .i64 (checkF x)))) := by
  refine con_of (by_ref04_Check ?_)
  generalize hR : RC _ = R
  have HR := Lib.hid hR; clear hR
  have HCo := Lib.hid (rfCounts_con x hb)
  have HNa := Lib.hid (rfNames_con x hb)
  have HLi := Lib.hid (rfLists_con x hb)
  have HRow := Lib.hid (fun l hl => rfExprs_con l (hb.row l hl) (hg.row l hl))
  have HSet := Lib.hid (fun s hs => rfCheckExpr_con (Se.ex s) (hb.set s hs).2 (hg.set s hs))
  have HIt := Lib.hid (rfExprs_con x.items hb.items hg.items)
  have HOn := Lib.hid (rfExprs_con x.on hb.on hg.on)
  have HWh := Lib.hid (rfExprs_con x.where_ hb.where_ hg.where_)
  have HGr := Lib.hid (rfExprs_con x.group hb.group hg.group)
  have e5 := hb.rows; have e6 := hb.sets; have e9 := hb.on.len; have e11 := hb.group.len
  clear hb hg
  have hF : checkF x = if x.kind < 1 ∨ 10 < x.kind then 22 else if shapeF x = false then 9
    else if firstBad (listsF x).flatten ≠ 0 then firstBad (listsF x).flatten
    else match x.group with
      | [] => 0
      | e :: _ => if e.op ≠ 1 then 9 else 0 := rfl
  have HF := Lib.hid hF; clear hF
  have HSh := Lib.hid (shape_ref x)
  have h0e : (encSm x)[0]? = some (.sc (.int .i64 x.kind)) := rfl
  have h13e : (encSm x)[13]? = some (.sc (.int .i64 x.limit)) := rfl
  by_cases h1 : x.kind < 1
  · simp (maxSteps:=1000000) (disch:=omega) only [sh_ref04_Check,encSm,decide_true,decide_false,go_sem, *]
    rw [← HR.out]; exact RC_ret rfl (by rw [HF.out, if_pos (.inl h1)])
  · by_cases h2 : 10 < x.kind
    · simp (maxSteps:=1000000) (disch:=omega) only [sh_ref04_Check,encSm,decide_true,decide_false,go_sem, *]
      rw [← HR.out]; exact RC_ret rfl (by rw [HF.out, if_pos (.inr h2)])
    · have hF2 := HF.out
      rw [if_neg (by omega), HSh.out (by omega) (by omega)] at hF2
      have HF2 := Lib.hid hF2; clear hF2 HF HSh
      have hlm : limF x = if x.kind = 7 then decide (-1 ≤ x.limit) && decide (x.limit ≤ 2147483648) else decide (x.limit = 0) := rfl
      have HLM := Lib.hid hlm; clear hlm
      have HJ : joinF x = (decide (x.join ≠ []) == decide (0 < (x.on.length : Int))) := rfl
      have HJ' := Lib.hid HJ; clear HJ
      have rest : ∀ s12 v σ n, s12 = [v, .sc (.bool (limF x))] → σ 0 = some (.c ⟨14, [encSm x], true, false⟩) → 16 ≤ n → jk_ref04_Check10 (.rf 0 14 0 0) R s12 σ n := by
        intro s12 v σ n hs h0 hn
        subst hs
        clear h1 h2 h0e h13e
        rw [jk_ref04_Check10, show aLd σ (some 14) (.rf 0 14 0 0) = some (.ag (encSm x)) from by simp [aLd, h0, Am.part, encSm], bindP_some]
        refine CALL_con0 HCo.out (by simp only [List.append_nil, brwL_cons, brwL_nil, brw_ag, smBrw, Option.map_some]) ?_
        rw [kc_ref04_Check9, onEnd_ret]
        have hld14 : aLd σ (some 14) (.rf 0 14 0 0) = some (.ag (encSm x)) := by simp [aLd, h0, Am.part, encSm]
        have l8 : aLd σ none (.rf 0 14 0 8) = some (.s x.join) := ld_box h0 rfl
        have l9 : aLd σ none (.rf 0 14 0 9) = some (.tr (x.on.map encE)) := ld_box h0 rfl
        have n9 := len_tr x.on encE
        cases hc1 : countsF x
        · simp (maxSteps:=1000000) (disch:=omega) only [decide_true,decide_false,go_sem, *]
          rw [← HR.out]; exact RC_ret rfl (by rw [HF2.out, hc1]; rfl)
        · rw [aUn_not, bindP_some]
          simp only [Bool.not_true, guardP_on, guardK_on]
          rw [hld14, bindP_some]
          refine CALL_con0 HNa.out (by simp only [List.append_nil, brwL_cons, brwL_nil, brw_ag, smBrw, Option.map_some]) ?_
          rw [kc_ref04_Check1, onEnd_ret]
          cases hc2 : namesF x
          · simp (maxSteps:=1000000) (disch:=omega) only [decide_true,decide_false,go_sem, *]
            rw [← HR.out]; exact RC_ret rfl (by rw [HF2.out, hc1, hc2]; rfl)
          · simp only [aUn_not, aPick_b, bindP_some, Bool.not_true, cond_false, guardP_on, guardK_on]
            rw [hld14, bindP_some]
            refine CALL_con0 HLi.out (by simp only [List.append_nil, brwL_cons, brwL_nil, brw_ag, smBrw, Option.map_some]) ?_
            rw [kc_ref04_Check2, onEnd_ret]
            cases hc3 : lstF x
            · simp (maxSteps:=1000000) (disch:=omega) only [decide_true,decide_false,go_sem, *]
              rw [← HR.out]; exact RC_ret rfl (by rw [HF2.out, hc1, hc2, hc3]; rfl)
            · cases hc4 : limF x
              · simp (maxSteps:=1000000) (disch:=omega) only [decide_true,decide_false,List.getD_cons_succ,List.getD_cons_zero,go_sem, *]
                rw [← HR.out]; exact RC_ret rfl (by rw [HF2.out, hc1, hc2, hc3, hc4]; rfl)
              · simp only [aUn_not, aPick_b, bindP_some, Bool.not_true, cond_false, guardP_on, List.getD_cons_succ, List.getD_cons_zero, aFad_rf, Nat.zero_add, l8, l9, n9, binS_neq, bin_gtr, aEqb_b, bb, if_true]
                have hj : joinF x = ((!decide (x.join = [])) == decide (0 < (x.on.length : Int))) := by rw [HJ'.out, decide_not]
                cases hc5 : joinF x
                · rw [hc5] at hj
                  rw [← hj, Bool.not_false, COND_true]
                  rw [← HR.out]; exact RC_ret rfl (by rw [HF2.out, hc1, hc2, hc3, hc4, hc5]; rfl)
                · rw [hc5] at hj
                  rw [← hj, Bool.not_true, COND_false]
                  have hF3 := HF2.out
                  rw [hc1, hc2, hc3, hc4, hc5] at hF3
                  simp only [Bool.and_self, Bool.true_eq_false, if_false] at hF3
                  rw [firstBad_flat] at hF3
                  have HF3 := Lib.hid hF3
                  clear hF3 HF2 HJ' HLM hj hc1 hc2 hc3 hc4 hc5 HCo HNa HLi l8 l9 n9 hld14
                  refine LOOP_list x.rows (fun i st => ∃ a b c d, st = [a, b, c, d, .sc (.int .i64 i)] ∧ firstBad (x.rows.take i).flatten = 0) ⟨_, _, _, _, rfl, rfl⟩ ?_ ?_
                  · rintro i l K st n' hx hi hi' hn' ⟨a, b, c, d, rfl, hz⟩ hK
                    have HK := Lib.hid hK; clear hK
                    have HX := Lib.hid (HRow.out l (List.mem_of_getElem? hx))
                    have HN := Lib.hid (flat_next hx hz)
                    have HS := Lib.hid (flat_stop hx hz); clear hz
                    have l5 : aLd σ none (.rf 0 14 0 5) = some (.tr (x.rows.map encRx)) := ld_box h0 rfl
                    have n5 := len_tr x.rows encRx
                    have i5 : aIad 1 (.tr (x.rows.map encRx)) (.sc (.int .i64 i)) = some (.fp [.tr (l.map encE)]) := by rw [aIad_tr, if_pos (by omega), Int.toNat_natCast, List.getElem?_map, hx]; rfl
                    rw [lb_ref04_Check8]
                    simp only [List.getD_cons_succ, List.getD_cons_zero, aFad_rf, Nat.zero_add, bindP_some, l5, n5]
                    intro _
                    rw [bindP_ltI, COND_yes hi', i5, bindP_some, show aLd σ none (.fp [.tr (l.map encE)]) = some (.tr (l.map encE)) from rfl, bindP_some]
                    refine CALL_con0 HX.out rfl ?_
                    clear l5 n5 i5
                    by_cases hz : firstBad l = 0
                    · rw [kc_ref04_Check3, onEnd_ret]
                      simp (maxSteps:=1000000) (disch:=omega) only [decide_true,decide_false,List.getD_cons_succ,List.getD_cons_zero,go_sem, *]
                      exact HK.out _ _ (Nat.le_refl _) ⟨_, _, _, _, rfl, by rw [HN.out]; exact hz⟩
                    · rw [kc_ref04_Check3, onEnd_ret]
                      simp (maxSteps:=1000000) (disch:=omega) only [decide_true,decide_false,List.getD_cons_succ,List.getD_cons_zero,go_sem, *]
                      rw [← HR.out]; exact RC_ret rfl (by rw [HF3.out, HS.out hz, if_pos hz, if_pos hz])
                  · rintro K st n' hn' ⟨a, b, c, d, rfl, hz⟩
                    rw [List.take_length] at hz
                    have hF3 := HF3.out
                    rw [hz] at hF3
                    have HF4 := Lib.hid hF3; clear hF3 HF3 hz
                    have l5 : aLd σ none (.rf 0 14 0 5) = some (.tr (x.rows.map encRx)) := ld_box h0 rfl
                    have n5 := len_tr x.rows encRx
                    rw [lb_ref04_Check8]
                    simp only [List.getD_cons_succ, List.getD_cons_zero, aFad_rf, Nat.zero_add, bindP_some, l5, n5]
                    intro _
                    rw [bindP_ltI, COND_no (Int.lt_irrefl _)]
                    clear l5 n5
                    refine LOOP_list x.sets (fun i st => ∃ a b c d, st = [a, b, c, d, .sc (.int .i64 i)] ∧ firstBad ((x.sets.take i).map (·.ex)) = 0) ⟨_, _, _, _, rfl, rfl⟩ ?_ ?_
                    · rintro i s K st n'' hx hi hi' hn'' ⟨a, b, c, d, rfl, hz⟩ hK
                      have HK := Lib.hid hK; clear hK
                      have HX := Lib.hid (HSet.out s (List.mem_of_getElem? hx))
                      have HN := Lib.hid (sets_next hx hz)
                      have HS := Lib.hid (sets_stop hx hz); clear hz
                      have l6 : aLd σ none (.rf 0 14 0 6) = some (.tr (x.sets.map encS)) := ld_box h0 rfl
                      have n6 := len_tr x.sets encS
                      have i6 : aIad 8 (.tr (x.sets.map encS)) (.sc (.int .i64 i)) = some (.fp (encS s)) := by rw [aIad_tr, if_pos (by omega), Int.toNat_natCast, List.getElem?_map, hx]; simp [encS_len]
                      rw [lb_ref04_Check7]
                      simp only [List.getD_cons_succ, List.getD_cons_zero, aFad_rf, Nat.zero_add, bindP_some, l6, n6]
                      intro _
                      rw [bindP_ltI, COND_yes hi', i6, bindP_some, show aFad 1 (.fp (encS s)) = some (.fp (encE s.ex)) from by simp [aFad, encS, encE_eq], bindP_some, show aLd σ (some 7) (.fp (encE s.ex)) = some (.ag (encE s.ex)) from by simp [aLd, Am.part, encE_eq], bindP_some]
                      refine CALL_con0 HX.out (by simp only [List.append_nil, brwL_cons, brwL_nil, brw_ag, encE_brw, Option.map_some]) ?_
                      clear l6 n6 i6
                      rw [kc_ref04_Check4, onEnd_ret]
                      change bindP (semBin .neq (.sc (.int .i64 (exErr s.ex))) _) _
                      by_cases hz : exErr s.ex = 0
                      · simp (maxSteps:=1000000) (disch:=omega) only [decide_true,decide_false,List.getD_cons_succ,List.getD_cons_zero,go_sem, *]
                        exact HK.out _ _ (Nat.le_refl _) ⟨_, _, _, _, rfl, by rw [HN.out]; exact hz⟩
                      · simp (maxSteps:=1000000) (disch:=omega) only [decide_true,decide_false,List.getD_cons_succ,List.getD_cons_zero,go_sem, *]
                        rw [← HR.out]; exact RC_ret rfl (by
                          have h := HF4.out
                          rw [HS.out hz] at h
                          simp [hz] at h
                          rw [h]; rfl)
                    · rintro K st n'' hn'' ⟨a, b, c, d, rfl, hz⟩
                      rw [List.take_length] at hz
                      have hF4 := HF4.out
                      rw [hz] at hF4
                      have HF5 := Lib.hid hF4; clear hF4 HF4 hz
                      have l6 : aLd σ none (.rf 0 14 0 6) = some (.tr (x.sets.map encS)) := ld_box h0 rfl
                      have n6 := len_tr x.sets encS
                      have l7 : aLd σ none (.rf 0 14 0 7) = some (.tr (x.items.map encE)) := ld_box h0 rfl
                      have l9 : aLd σ none (.rf 0 14 0 9) = some (.tr (x.on.map encE)) := ld_box h0 rfl
                      have l10 : aLd σ none (.rf 0 14 0 10) = some (.tr (x.where_.map encE)) := ld_box h0 rfl
                      have l11 : aLd σ none (.rf 0 14 0 11) = some (.tr (x.group.map encE)) := ld_box h0 rfl
                      rw [lb_ref04_Check7]
                      simp only [List.getD_cons_succ, List.getD_cons_zero, aFad_rf, Nat.zero_add, bindP_some, l6, n6]
                      intro _
                      rw [bindP_ltI, COND_no (Int.lt_irrefl _)]
                      simp only [bindP_some, l7, l9, l10, l11]
                      clear l6 n6 l7 l9 l10 l11
                      change bindS (some (.ow _ 1 0 4, [(_, some (Ob.c ⟨1, [x.items, x.on, x.where_, x.group].map encRx, true, true⟩))])) _ _ _
                      rw [bindS_some]
                      generalize hτ : applyW _ _ = τ
                      have h1 : τ n'' = some (.c ⟨1, [x.items, x.on, x.where_, x.group].map encRx, true, true⟩) := by rw [← hτ]; simp only [applyW_cons, applyW_nil]; exact upd_is rfl
                      have h0' : τ 0 = some (.c ⟨14, [encSm x], true, false⟩) := by rw [← hτ]; simp only [applyW_cons, applyW_nil]; rw [upd_not (by omega)]; exact h0
                      clear hτ h0
                      have HL4 := Lib.hid (show ∀ l ∈ [x.items, x.on, x.where_, x.group], Con Tryz.prog 30 [.tr (l.map encE)] (.ret (.sc (.int .i64 (firstBad l)))) from by
                        intro l hl
                        simp only [List.mem_cons, List.not_mem_nil, or_false] at hl
                        rcases hl with rfl | rfl | rfl | rfl
                        · exact HIt.out
                        · exact HOn.out
                        · exact HWh.out
                        · exact HGr.out)
                      refine LOOP_list [x.items, x.on, x.where_, x.group] (fun i st => ∃ a b c d, st = [a, b, c, d, .sc (.int .i64 i)] ∧ firstBad ([x.items, x.on, x.where_, x.group].take i).flatten = 0) ⟨_, _, _, _, rfl, rfl⟩ ?_ ?_
                      · rintro i l K st n' hx hi hi' hn' ⟨a, b, c, d, rfl, hz⟩ hK
                        have HK := Lib.hid hK; clear hK
                        have HX := Lib.hid (HL4.out l (List.mem_of_getElem? hx))
                        have HN := Lib.hid (flat_next hx hz)
                        have HS := Lib.hid (flat_stop hx hz); clear hz
                        have hi4 : i < 4 := hi
                        have i4 : aIad 1 (.ow n'' 1 0 4) (.sc (.int .i64 i)) = some (.rf n'' 1 i 0) := by rw [aIad_ow, if_pos ⟨rfl, by omega, by omega⟩]; simp
                        have l4 : aLd τ none (.rf n'' 1 i 0) = some (.tr (l.map encE)) := by
                          rw [aLd_rf, h1]
                          simp only [if_true, List.getElem?_map, hx, Option.map_some, part_none, encRx]
                          rfl
                        rw [lb_ref04_Check6]
                        simp only [List.getD_cons_succ, List.getD_cons_zero, aFad_rf, Nat.zero_add]
                        rw [bindP_ltI, COND_yes (by omega), i4, bindP_some, l4, bindP_some]
                        refine CALL_con0 HX.out rfl ?_
                        clear i4 l4 h1 hi hi' hx
                        by_cases hz : firstBad l = 0
                        · rw [kc_ref04_Check5, onEnd_ret]
                          simp (maxSteps:=1000000) (disch:=omega) only [decide_true,decide_false,List.getD_cons_succ,List.getD_cons_zero,go_sem, *]
                          exact HK.out _ _ (Nat.le_refl _) ⟨_, _, _, _, rfl, by rw [HN.out]; exact hz⟩
                        · rw [kc_ref04_Check5, onEnd_ret]
                          simp (maxSteps:=1000000) (disch:=omega) only [decide_true,decide_false,List.getD_cons_succ,List.getD_cons_zero,go_sem, *]
                          rw [← HR.out]; exact RC_ret rfl (by
                            have h := HF5.out
                            rw [HS.out hz] at h
                            simp [hz] at h
                            rw [h])
                      · rintro K st n' hn' ⟨a, b, c, d, rfl, hz⟩
                        have hz' : firstBad [x.items, x.on, x.where_, x.group].flatten = 0 := hz
                        have hF5 := HF5.out
                        rw [hz'] at hF5
                        simp only [ne_eq, not_true_eq_false, if_false] at hF5
                        have l11 : aLd τ none (.rf 0 14 0 11) = some (.tr (x.group.map encE)) := ld_box h0' rfl
                        have n11 := len_tr x.group encE
                        rw [lb_ref04_Check6]
                        simp only [List.getD_cons_succ, List.getD_cons_zero, aFad_rf, Nat.zero_add, List.length_cons, List.length_nil]
                        rw [bindP_ltI, COND_no (by omega)]
                        simp only [bindP_some, l11, n11]
                        intro _
                        cases hgr : x.group with
                        | nil =>
                          rw [hgr] at hF5
                          have HF6 := Lib.hid hF5; clear hF5 HF5 hz hz'
                          rw [bin_gtr, bindP_some, show decide ((0 : Int) < (([] : List Ep).length : Int)) = false from rfl]
                          simp only [guardP_f, aPick_b, cond_false, bindP_some, COND_false]
                          rw [← HR.out]; exact RC_ret rfl (by rw [HF6.out])
                        | cons e l =>
                          rw [hgr] at hF5
                          rw [hgr] at l11
                          have i7 : aIad 7 (.tr ((e :: l).map encE)) (.sc (.int .i64 0)) = some (.fp (encE e)) := by rw [aIad_tr, if_pos (by omega)]; simp [encE_len]
                          have a7 : aFad 0 (.fp (encE e)) = some (.fp (encE e)) := by simp [aFad, encE_len]
                          have b7 : aLd τ none (.fp (encE e)) = some (.sc (.int .i64 e.op)) := by simp [aLd, part_none, encE_eq]
                          rw [bin_gtr, bindP_some, decide_eq_true (by simp only [List.length_cons]; omega)]
                          simp only [guardP_on, bindP_some, l11, i7, a7, b7, bin_neq, aPick_b, cond_true]
                          change checkF x = if ¬ e.op = 1 then 9 else 0 at hF5
                          by_cases ho : e.op = 1
                          · rw [if_neg (by simp [ho])] at hF5
                            rw [show (!decide (e.op = 1)) = false by simp [ho], COND_false]
                            rw [← HR.out]; exact RC_ret rfl (by rw [hF5])
                          · rw [if_pos ho] at hF5
                            rw [show (!decide (e.op = 1)) = true by simp [ho], COND_true]
                            rw [← HR.out]; exact RC_ret rfl (by rw [hF5])
      have HRest := Lib.hid rest; clear rest
      rw [sh_ref04_Check]
      change bindS (some (.rf 0 14 0 0, [(0, some (Ob.c ⟨14, [encSm x], true, false⟩))])) _ _ _
      rw [bindS_some]
      generalize hτ : applyW _ _ = τ
      have h0 : τ 0 = some (.c ⟨14, [encSm x], true, false⟩) := by rw [← hτ]; simp only [applyW_cons, applyW_nil]; exact upd_is rfl
      clear hτ
      have l0 : aLd τ none (.rf 0 14 0 0) = some (.sc (.int .i64 x.kind)) := ld_box h0 h0e
      have l13 : aLd τ none (.rf 0 14 0 13) = some (.sc (.int .i64 x.limit)) := ld_box h0 h13e
      simp only [aFad_rf, Nat.zero_add, bindP_some, l0, l13]
      rw [bindP_ltI, decide_eq_false h1]
      simp only [guardP_on, bindP_some, l0, bin_gtr, aPick_b, cond_false]
      rw [decide_eq_false h2, COND_false, bindP_eqI, JOIN_eq, bindP_eqI]
      have hlm := HLM.out
      by_cases h7 : x.kind = 7
      · rw [COND_yes h7, bin_geq, bindP_some]
        rw [if_pos h7] at hlm
        by_cases hl : -1 ≤ x.limit
        · rw [decide_eq_true hl] at hlm ⊢
          simp only [guardP_on, bindP_some, l13, bin_leq, aPick_b, cond_true]
          refine HRest.out _ (.sc (.bool (decide (x.kind = 7)))) _ _ ?_ h0 (by omega)
          rw [hlm]; rfl
        · rw [decide_eq_false hl] at hlm ⊢
          simp only [guardP_f, bindP_some, aPick_b, cond_false]
          refine HRest.out _ (.sc (.bool (decide (x.kind = 7)))) _ _ ?_ h0 (by omega)
          rw [hlm]; rfl
      · rw [COND_no h7]
        rw [if_neg h7] at hlm
        refine HRest.out _ (.sc (.bool (decide (x.kind = 7)))) _ _ ?_ h0 (by omega)
        rw [hlm]
end Go.Proofs.YtodoejfkjimeaaaGreatDoor
