/- Packed by a program of this repo: Ue Rg Rw Rx. -/
import Derived.Test.YtodoejfkjimeaaaDoorKOCa
import Derived.Test.YtodoejfkjimeaaaDoorKOQa
import Derived.Test.YtodoejfkjimeaaaDoorKOSh4b
import Derived.Test.YtodoejfkjimeaaaDoorRows
import Derived.WalkKit
import Derived.ProofKit
import Derived.OpenShut
import Derived.ShutString
import Derived.Deep.Slices
import Derived.Carry
import Derived.JoinedCond
import Derived.HandedShaped
set_option linter.unusedSimpArgs false
set_option linter.unusedVariables false
set_option maxRecDepth 100000
namespace Go.Proofs.YtodoejfkjimeaaaDoor
open Go Go.RowKit Am
attribute [-go_sem] guardP_if guardK_if guardD_if COND_bool
attribute [local go_sem low] guardP_if guardK_if guardD_if COND_bool
noncomputable def eqB (p : Prop) : Bool := @decide p (Classical.propDecidable p)
theorem eqB_t {p : Prop} (h : p) : eqB p = true := by unfold eqB; exact @decide_eq_true p (Classical.propDecidable p) h
theorem eqB_f {p : Prop} (h : ¬ p) : eqB p = false := by unfold eqB; exact @decide_eq_false p (Classical.propDecidable p) h
theorem eqB_iff {p : Prop} : eqB p = true ↔ p := ⟨fun h => Classical.byContradiction (fun hn => by rw [eqB_f hn] at h; cases h), eqB_t⟩
theorem sameL_iff : ∀ (l m : List Ep), sameL l m = true ↔ l = m
  | [], [] => by simp [sameL]
  | [], _ :: _ => by simp [sameL]
  | _ :: _, [] => by simp [sameL]
  | a :: l, b :: m => by simp only [sameL, Bool.and_eq_true, sameF_iff, sameL_iff l m, List.cons.injEq]
theorem sameF_eqB (a b : Ep) : sameF a b = eqB (a = b) := by rw [Bool.eq_iff_iff, eqB_iff, sameF_iff]
theorem sameL_eqB (a b : List Ep) : sameL a b = eqB (a = b) := by rw [Bool.eq_iff_iff, eqB_iff, sameL_iff]
theorem take_eq {α : Type} {l m : List α} {i : Nat} {x y : α} (hx : l[i]? = some x) (hy : m[i]? = some y) (h : l.take i = m.take i) (e : x = y) : l.take (i + 1) = m.take (i + 1) := by
  rw [List.take_add_one, List.take_add_one, hx, hy, h, e]
theorem take_ne {α : Type} {l m : List α} {i : Nat} {x y : α} (hx : l[i]? = some x) (hy : m[i]? = some y) (e : x ≠ y) : l ≠ m := by
  rintro rfl; rw [hx] at hy; cases hy; exact e rfl
set_option maxHeartbeats 4000000 in
theorem eqfE_con (l m : List Ep) (g : FuncId) (h : ∀ a ∈ l, ∀ b, Con Tryd.prog g [.ag (encE a), .ag (encE b)] (.ret (.sc (.bool (eqB (a = b)))))) :
    Con Tryd.prog 40 [.tr (l.map encE), .tr (m.map encE), .fn g []] (.ret (.sc (.bool (eqB (l = m))))) := by
  refine con_of (by_slices_EqualFunc_lapi_Expr_lapi_Expr_api_Expr_api_Expr ?_)
  generalize hR : RC _ = R
  have HR := Lib.hid hR; clear hR
  have IH := Lib.hid h; clear h
  by_cases h1 : (l.length : Int) = m.length
  · simp (maxSteps:=1000000) (disch:=omega) only [sh_slices_EqualFunc_lapi_Expr_lapi_Expr_api_Expr_api_Expr,go_sem,wrapI,wrapB,upd_is,upd_not,Nat.reduceAdd,Nat.reduceSub,Nat.reduceMul,Nat.reduceLeDiff,Nat.reduceEqDiff,Int.reduceAdd,Int.reduceSub,Int.reduceMul,Int.reduceNeg,Int.reduceLT,Int.reduceLE,Int.reduceEq,Int.reduceToNat,reduceCtorEq,reduceIte,Nat.zero_add,Nat.add_zero, *]
    intro _ _ _
    refine LOOP_listM l (fun i s σ' n' => (∃ a b c d e f, s = [a, b, c, d, e, f, .sc (.int .i64 i)]) ∧ l.take i = m.take i) (.refl ⟨⟨_, _, _, _, _, _, rfl⟩, rfl⟩) ?_ ?_
    · rintro i x K s' σ' n2 hx hi hi' hn ⟨⟨a, b, c, d, e, f, rfl⟩, hal⟩ hK
      have HK := Lib.hid hK; clear hK
      obtain ⟨y, hy⟩ : ∃ y, m[i]? = some y := ⟨m[i]'(by omega), List.getElem?_eq_getElem _⟩
      have HI := IH.out x (List.mem_of_getElem? hx) y
      have hi2 : (i : Int) < m.length := by omega
      have HT := Lib.hid (take_eq hx hy hal)
      have HN := Lib.hid (take_ne hx hy); clear hal
      simp (maxSteps:=1000000) (disch:=omega) only [lb_slices_EqualFunc_lapi_Expr_lapi_Expr_api_Expr_api_Expr2,List.getD_cons_succ,List.getD_cons_zero,go_sem,wrapI,wrapB,upd_is,upd_not,Nat.reduceAdd,Nat.reduceSub,Nat.reduceMul,Nat.reduceLeDiff,Nat.reduceEqDiff,Int.reduceAdd,Int.reduceSub,Int.reduceMul,Int.reduceNeg,Int.reduceLT,Int.reduceLE,Int.reduceEq,Int.reduceToNat,reduceCtorEq,reduceIte,Nat.zero_add,Nat.add_zero, *]
      refine CALL_con0 HI (by simp only [brwL_cons, brwL_nil, brw_ag, brw_tr, brw_sc, encE_brw, List.append_nil, Option.map_some]) ?_
      rw [kc_slices_EqualFunc_lapi_Expr_lapi_Expr_api_Expr_api_Expr1, onEnd_ret]
      by_cases hq : x = y
      · have HQ := Lib.hid (HT.out hq); clear HT HN
        rw [eqB_t hq]; clear hq HI
        simp (maxSteps:=1000000) (disch:=omega) only [List.getD_cons_succ,List.getD_cons_zero,go_sem,wrapI,wrapB,upd_is,upd_not,Nat.reduceAdd,Nat.reduceSub,Nat.reduceMul,Nat.reduceLeDiff,Nat.reduceEqDiff,Int.reduceAdd,Int.reduceSub,Int.reduceMul,Int.reduceNeg,Int.reduceLT,Int.reduceLE,Int.reduceEq,Int.reduceToNat,reduceCtorEq,reduceIte,Nat.zero_add,Nat.add_zero, *]
        exact HK.out _ _ _ (.refl ⟨⟨_, _, _, _, _, _, rfl⟩, HQ.out⟩)
      · have HQ := Lib.hid (HN.out hq); clear HT HN
        rw [eqB_f hq]; clear hq HI
        simp (maxSteps:=1000000) (disch:=omega) only [List.getD_cons_succ,List.getD_cons_zero,go_sem,wrapI,wrapB,upd_is,upd_not,Nat.reduceAdd,Nat.reduceSub,Nat.reduceMul,Nat.reduceLeDiff,Nat.reduceEqDiff,Int.reduceAdd,Int.reduceSub,Int.reduceMul,Int.reduceNeg,Int.reduceLT,Int.reduceLE,Int.reduceEq,Int.reduceToNat,reduceCtorEq,reduceIte,Nat.zero_add,Nat.add_zero, *]
        rw [← HR.out, eqB_f HQ.out]; exact RC_ret rfl rfl
    · rintro K s' σ' n2 hn ⟨⟨a, b, c, d, e, f, rfl⟩, hal⟩
      have hlm : l.length = m.length := by omega
      rw [List.take_length, List.take_of_length_le (by omega)] at hal
      have HA := Lib.hid hal; clear hal hlm
      simp (maxSteps:=1000000) (disch:=omega) only [lb_slices_EqualFunc_lapi_Expr_lapi_Expr_api_Expr_api_Expr2,Int.lt_irrefl,List.getD_cons_succ,List.getD_cons_zero,go_sem,wrapI,wrapB,upd_is,upd_not,Nat.reduceAdd,Nat.reduceSub,Nat.reduceMul,Nat.reduceLeDiff,Nat.reduceEqDiff,Int.reduceAdd,Int.reduceSub,Int.reduceMul,Int.reduceNeg,Int.reduceLT,Int.reduceLE,Int.reduceEq,Int.reduceToNat,reduceCtorEq,reduceIte,Nat.zero_add,Nat.add_zero, *]
      rw [← HR.out, eqB_t HA.out]; exact RC_ret rfl rfl
  · have hf := Lib.hid (fun e : l = m => h1 (by rw [e]))
    simp (maxSteps:=1000000) (disch:=omega) only [sh_slices_EqualFunc_lapi_Expr_lapi_Expr_api_Expr_api_Expr,go_sem,wrapI,wrapB,upd_is,upd_not,Nat.reduceAdd,Nat.reduceSub,Nat.reduceMul,Nat.reduceLeDiff,Nat.reduceEqDiff,Int.reduceAdd,Int.reduceSub,Int.reduceMul,Int.reduceNeg,Int.reduceLT,Int.reduceLE,Int.reduceEq,Int.reduceToNat,reduceCtorEq,reduceIte,Nat.zero_add,Nat.add_zero, *]
    intro _ _
    rw [← HR.out, eqB_f hf.out]; exact RC_ret rfl rfl
set_option maxHeartbeats 4000000 in
theorem alikeE_con (a b : Ep) : Con Tryd.prog 41 [.ag (encE a), .ag (encE b)] (.ret (.sc (.bool (eqB (a = b))))) := by
  have htr := tr_all a
  induction htr generalizing b with
  | mk a h ih =>
    refine con_of (by_syntax_Alike ?_)
    generalize hR : RC _ = R
    have HR := Lib.hid hR; clear hR
    have HL := Lib.hid (eqfE_con a.args b.args 41 ih); clear ih h
    have HF := Lib.hid (sameF_eq a b)
    rw [← sameF_eqB] at HR
    rw [← sameL_eqB] at HL
    by_cases h1 : a.op = b.op
    · skip
      by_cases h2 : a.kind = b.kind
      · skip
        by_cases h3 : a.n = b.n
        · skip
          by_cases h4 : a.text = b.text
          · skip
            by_cases h5 : a.table = b.table
            · skip
              by_cases h6 : a.name = b.name
              · skip
                have hf : sameF a b = sameL a.args b.args := by rw [HF.out]; simp [h1, h2, h3, h4, h5, h6]
                have HF' := Lib.hid hf; clear hf HF
                simp (maxSteps:=1000000) (disch:=omega) only [sh_syntax_Alike,encE_eq,Bool.and_false,Bool.false_and,Bool.and_true,Bool.true_and,Bool.and_self,go_sem,wrapI,wrapB,upd_is,upd_not,Nat.reduceAdd,Nat.reduceSub,Nat.reduceMul,Nat.reduceLeDiff,Nat.reduceEqDiff,Int.reduceAdd,Int.reduceSub,Int.reduceMul,Int.reduceNeg,Int.reduceLT,Int.reduceLE,Int.reduceEq,Int.reduceToNat,reduceCtorEq,reduceIte,Nat.zero_add,Nat.add_zero, *]
                refine CALL_con0 HL.out rfl ?_
                simp (maxSteps:=1000000) (disch:=omega) only [go_sem,wrapI,wrapB,upd_is,upd_not,Nat.reduceAdd,Nat.reduceSub,Nat.reduceMul,Nat.reduceLeDiff,Nat.reduceEqDiff,Int.reduceAdd,Int.reduceSub,Int.reduceMul,Int.reduceNeg,Int.reduceLT,Int.reduceLE,Int.reduceEq,Int.reduceToNat,reduceCtorEq,reduceIte,Nat.zero_add,Nat.add_zero, *]
                rw [← HR.out, HF'.out]; exact RC_ret rfl rfl
              · have hf : sameF a b = false := by rw [HF.out]; simp [h6]
                have HF' := Lib.hid hf; clear hf HF
                simp (maxSteps:=1000000) (disch:=omega) only [sh_syntax_Alike,encE_eq,Bool.and_false,Bool.false_and,Bool.and_true,Bool.true_and,Bool.and_self,go_sem,wrapI,wrapB,upd_is,upd_not,Nat.reduceAdd,Nat.reduceSub,Nat.reduceMul,Nat.reduceLeDiff,Nat.reduceEqDiff,Int.reduceAdd,Int.reduceSub,Int.reduceMul,Int.reduceNeg,Int.reduceLT,Int.reduceLE,Int.reduceEq,Int.reduceToNat,reduceCtorEq,reduceIte,Nat.zero_add,Nat.add_zero, *]
                rw [← HR.out, HF'.out]; exact RC_ret rfl rfl
            · have hf : sameF a b = false := by rw [HF.out]; simp [h5]
              have HF' := Lib.hid hf; clear hf HF
              simp (maxSteps:=1000000) (disch:=omega) only [sh_syntax_Alike,encE_eq,Bool.and_false,Bool.false_and,Bool.and_true,Bool.true_and,Bool.and_self,go_sem,wrapI,wrapB,upd_is,upd_not,Nat.reduceAdd,Nat.reduceSub,Nat.reduceMul,Nat.reduceLeDiff,Nat.reduceEqDiff,Int.reduceAdd,Int.reduceSub,Int.reduceMul,Int.reduceNeg,Int.reduceLT,Int.reduceLE,Int.reduceEq,Int.reduceToNat,reduceCtorEq,reduceIte,Nat.zero_add,Nat.add_zero, *]
              rw [← HR.out, HF'.out]; exact RC_ret rfl rfl
          · have hf : sameF a b = false := by rw [HF.out]; simp [h4]
            have HF' := Lib.hid hf; clear hf HF
            simp (maxSteps:=1000000) (disch:=omega) only [sh_syntax_Alike,encE_eq,Bool.and_false,Bool.false_and,Bool.and_true,Bool.true_and,Bool.and_self,go_sem,wrapI,wrapB,upd_is,upd_not,Nat.reduceAdd,Nat.reduceSub,Nat.reduceMul,Nat.reduceLeDiff,Nat.reduceEqDiff,Int.reduceAdd,Int.reduceSub,Int.reduceMul,Int.reduceNeg,Int.reduceLT,Int.reduceLE,Int.reduceEq,Int.reduceToNat,reduceCtorEq,reduceIte,Nat.zero_add,Nat.add_zero, *]
            rw [← HR.out, HF'.out]; exact RC_ret rfl rfl
        · have hf : sameF a b = false := by rw [HF.out]; simp [h3]
          have HF' := Lib.hid hf; clear hf HF
          simp (maxSteps:=1000000) (disch:=omega) only [sh_syntax_Alike,encE_eq,Bool.and_false,Bool.false_and,Bool.and_true,Bool.true_and,Bool.and_self,go_sem,wrapI,wrapB,upd_is,upd_not,Nat.reduceAdd,Nat.reduceSub,Nat.reduceMul,Nat.reduceLeDiff,Nat.reduceEqDiff,Int.reduceAdd,Int.reduceSub,Int.reduceMul,Int.reduceNeg,Int.reduceLT,Int.reduceLE,Int.reduceEq,Int.reduceToNat,reduceCtorEq,reduceIte,Nat.zero_add,Nat.add_zero, *]
          rw [← HR.out, HF'.out]; exact RC_ret rfl rfl
      · have hf : sameF a b = false := by rw [HF.out]; simp [h2]
        have HF' := Lib.hid hf; clear hf HF
        simp (maxSteps:=1000000) (disch:=omega) only [sh_syntax_Alike,encE_eq,Bool.and_false,Bool.false_and,Bool.and_true,Bool.true_and,Bool.and_self,go_sem,wrapI,wrapB,upd_is,upd_not,Nat.reduceAdd,Nat.reduceSub,Nat.reduceMul,Nat.reduceLeDiff,Nat.reduceEqDiff,Int.reduceAdd,Int.reduceSub,Int.reduceMul,Int.reduceNeg,Int.reduceLT,Int.reduceLE,Int.reduceEq,Int.reduceToNat,reduceCtorEq,reduceIte,Nat.zero_add,Nat.add_zero, *]
        rw [← HR.out, HF'.out]; exact RC_ret rfl rfl
    · have hf : sameF a b = false := by rw [HF.out]; simp [h1]
      have HF' := Lib.hid hf; clear hf HF
      have hd : decide (a.op = b.op) = false := decide_eq_false h1
      clear h1 HL
      simp only [sh_syntax_Alike, encE_eq, go_sem, upd_is, upd_not, hd, reduceCtorEq, reduceIte, Nat.reduceAdd, Nat.reduceEqDiff]
      rw [← HR.out, HF'.out]; exact RC_ret rfl rfl
theorem same1_con (l m : List Ep) : Con Tryd.prog 39 [.tr (l.map encE), .tr (m.map encE)] (.ret (.sc (.bool (eqB (l = m))))) := by
  refine con_of (by_syntax_Same_c1 ?_)
  generalize hR : RC _ = R
  have HR := Lib.hid hR; clear hR
  have H := Lib.hid (eqfE_con l m 41 (fun a _ b => alikeE_con a b))
  simp (maxSteps:=1000000) (disch:=omega) only [sh_syntax_Same_c1,go_sem,wrapI,wrapB,upd_is,upd_not,Nat.reduceAdd,Nat.reduceSub,Nat.reduceMul,Nat.reduceLeDiff,Nat.reduceEqDiff,Int.reduceAdd,Int.reduceSub,Int.reduceMul,Int.reduceNeg,Int.reduceLT,Int.reduceLE,Int.reduceEq,Int.reduceToNat,reduceCtorEq,reduceIte,Nat.zero_add,Nat.add_zero, *]
  refine CALL_con0 H.out rfl ?_
  simp (maxSteps:=1000000) (disch:=omega) only [go_sem,wrapI,wrapB,upd_is,upd_not,Nat.reduceAdd,Nat.reduceSub,Nat.reduceMul,Nat.reduceLeDiff,Nat.reduceEqDiff,Int.reduceAdd,Int.reduceSub,Int.reduceMul,Int.reduceNeg,Int.reduceLT,Int.reduceLE,Int.reduceEq,Int.reduceToNat,reduceCtorEq,reduceIte,Nat.zero_add,Nat.add_zero, *]
  rw [← HR.out]; exact RC_ret rfl rfl
set_option maxHeartbeats 4000000 in
theorem eqfRx_con (l m : List (List Ep)) (g : FuncId) (h : ∀ a ∈ l, ∀ b, Con Tryd.prog g [.tr (a.map encE), .tr (b.map encE)] (.ret (.sc (.bool (eqB (a = b)))))) :
    Con Tryd.prog 44 [.tr (l.map encRx), .tr (m.map encRx), .fn g []] (.ret (.sc (.bool (eqB (l = m))))) := by
  refine con_of (by_slices_EqualFunc_llapi_Expr_llapi_Expr_lapi_Expr_lapi_Expr ?_)
  generalize hR : RC _ = R
  have HR := Lib.hid hR; clear hR
  have IH := Lib.hid h; clear h
  by_cases h1 : (l.length : Int) = m.length
  · simp (maxSteps:=1000000) (disch:=omega) only [sh_slices_EqualFunc_llapi_Expr_llapi_Expr_lapi_Expr_lapi_Expr,go_sem,wrapI,wrapB,upd_is,upd_not,Nat.reduceAdd,Nat.reduceSub,Nat.reduceMul,Nat.reduceLeDiff,Nat.reduceEqDiff,Int.reduceAdd,Int.reduceSub,Int.reduceMul,Int.reduceNeg,Int.reduceLT,Int.reduceLE,Int.reduceEq,Int.reduceToNat,reduceCtorEq,reduceIte,Nat.zero_add,Nat.add_zero, *]
    intro _ _ _
    refine LOOP_listM l (fun i s σ' n' => (∃ a b c d e f, s = [a, b, c, d, e, f, .sc (.int .i64 i)]) ∧ l.take i = m.take i) (.refl ⟨⟨_, _, _, _, _, _, rfl⟩, rfl⟩) ?_ ?_
    · rintro i x K s' σ' n2 hx hi hi' hn ⟨⟨a, b, c, d, e, f, rfl⟩, hal⟩ hK
      have HK := Lib.hid hK; clear hK
      obtain ⟨y, hy⟩ : ∃ y, m[i]? = some y := ⟨m[i]'(by omega), List.getElem?_eq_getElem _⟩
      have HI := IH.out x (List.mem_of_getElem? hx) y
      have hi2 : (i : Int) < m.length := by omega
      have HT := Lib.hid (take_eq hx hy hal)
      have HN := Lib.hid (take_ne hx hy); clear hal
      simp (maxSteps:=1000000) (disch:=omega) only [lb_slices_EqualFunc_llapi_Expr_llapi_Expr_lapi_Expr_lapi_Expr2,List.getD_cons_succ,List.getD_cons_zero,go_sem,wrapI,wrapB,upd_is,upd_not,Nat.reduceAdd,Nat.reduceSub,Nat.reduceMul,Nat.reduceLeDiff,Nat.reduceEqDiff,Int.reduceAdd,Int.reduceSub,Int.reduceMul,Int.reduceNeg,Int.reduceLT,Int.reduceLE,Int.reduceEq,Int.reduceToNat,reduceCtorEq,reduceIte,Nat.zero_add,Nat.add_zero, *]
      refine CALL_con0 HI (by simp only [brwL_cons, brwL_nil, brw_ag, brw_tr, brw_sc, encE_brw, List.append_nil, Option.map_some]) ?_
      rw [kc_slices_EqualFunc_llapi_Expr_llapi_Expr_lapi_Expr_lapi_Expr1, onEnd_ret]
      by_cases hq : x = y
      · have HQ := Lib.hid (HT.out hq); clear HT HN
        rw [eqB_t hq]; clear hq HI
        simp (maxSteps:=1000000) (disch:=omega) only [List.getD_cons_succ,List.getD_cons_zero,go_sem,wrapI,wrapB,upd_is,upd_not,Nat.reduceAdd,Nat.reduceSub,Nat.reduceMul,Nat.reduceLeDiff,Nat.reduceEqDiff,Int.reduceAdd,Int.reduceSub,Int.reduceMul,Int.reduceNeg,Int.reduceLT,Int.reduceLE,Int.reduceEq,Int.reduceToNat,reduceCtorEq,reduceIte,Nat.zero_add,Nat.add_zero, *]
        exact HK.out _ _ _ (.refl ⟨⟨_, _, _, _, _, _, rfl⟩, HQ.out⟩)
      · have HQ := Lib.hid (HN.out hq); clear HT HN
        rw [eqB_f hq]; clear hq HI
        simp (maxSteps:=1000000) (disch:=omega) only [List.getD_cons_succ,List.getD_cons_zero,go_sem,wrapI,wrapB,upd_is,upd_not,Nat.reduceAdd,Nat.reduceSub,Nat.reduceMul,Nat.reduceLeDiff,Nat.reduceEqDiff,Int.reduceAdd,Int.reduceSub,Int.reduceMul,Int.reduceNeg,Int.reduceLT,Int.reduceLE,Int.reduceEq,Int.reduceToNat,reduceCtorEq,reduceIte,Nat.zero_add,Nat.add_zero, *]
        rw [← HR.out, eqB_f HQ.out]; exact RC_ret rfl rfl
    · rintro K s' σ' n2 hn ⟨⟨a, b, c, d, e, f, rfl⟩, hal⟩
      have hlm : l.length = m.length := by omega
      rw [List.take_length, List.take_of_length_le (by omega)] at hal
      have HA := Lib.hid hal; clear hal hlm
      simp (maxSteps:=1000000) (disch:=omega) only [lb_slices_EqualFunc_llapi_Expr_llapi_Expr_lapi_Expr_lapi_Expr2,Int.lt_irrefl,List.getD_cons_succ,List.getD_cons_zero,go_sem,wrapI,wrapB,upd_is,upd_not,Nat.reduceAdd,Nat.reduceSub,Nat.reduceMul,Nat.reduceLeDiff,Nat.reduceEqDiff,Int.reduceAdd,Int.reduceSub,Int.reduceMul,Int.reduceNeg,Int.reduceLT,Int.reduceLE,Int.reduceEq,Int.reduceToNat,reduceCtorEq,reduceIte,Nat.zero_add,Nat.add_zero, *]
      rw [← HR.out, eqB_t HA.out]; exact RC_ret rfl rfl
  · have hf := Lib.hid (fun e : l = m => h1 (by rw [e]))
    simp (maxSteps:=1000000) (disch:=omega) only [sh_slices_EqualFunc_llapi_Expr_llapi_Expr_lapi_Expr_lapi_Expr,go_sem,wrapI,wrapB,upd_is,upd_not,Nat.reduceAdd,Nat.reduceSub,Nat.reduceMul,Nat.reduceLeDiff,Nat.reduceEqDiff,Int.reduceAdd,Int.reduceSub,Int.reduceMul,Int.reduceNeg,Int.reduceLT,Int.reduceLE,Int.reduceEq,Int.reduceToNat,reduceCtorEq,reduceIte,Nat.zero_add,Nat.add_zero, *]
    intro _ _
    rw [← HR.out, eqB_f hf.out]; exact RC_ret rfl rfl
theorem encS_take (x : Se) : (encS x).take 8 = encS x := List.take_of_length_le (by rw [encS_len]; omega)
theorem encS_leaf (x : Se) : (encS x).all leafok = true := by simp [encS, encE_eq, leafok]
attribute [go_sem] encS_take encS_leaf
theorem encS_brw (σ : Hp) (d : Nat) (x : Se) : brwL σ d (encS x) = some (encS x, []) := by
  simp only [encS, brwL_cons, brw_s, encE_brw, List.nil_append]
set_option maxHeartbeats 4000000 in
theorem same2_con (x y : Se) : Con Tryd.prog 46 [.ag (encS x), .ag (encS y)] (.ret (.sc (.bool (eqB (x = y))))) := by
  refine con_of (by_syntax_Same_c2 ?_)
  generalize hR : RC _ = R
  have HR := Lib.hid hR; clear hR
  have H := Lib.hid (alikeE_con x.ex y.ex)
  obtain ⟨n, e⟩ := x
  obtain ⟨n', e'⟩ := y
  simp only at H
  rw [show encS ⟨n, e⟩ = .s n :: encE e from rfl, show encS ⟨n', e'⟩ = .s n' :: encE e' from rfl, encE_eq, encE_eq]
  by_cases h1 : n = n'
  · by_cases h2 : e = e'
    · rw [eqB_t h2] at H
      rw [eqB_t (by rw [h1, h2])] at HR
      rw [encE_eq, encE_eq] at H
      clear h2
      simp (maxSteps:=1000000) (disch:=omega) only [sh_syntax_Same_c2,go_sem,wrapI,wrapB,upd_is,upd_not,Nat.reduceAdd,Nat.reduceSub,Nat.reduceMul,Nat.reduceLeDiff,Nat.reduceEqDiff,Int.reduceAdd,Int.reduceSub,Int.reduceMul,Int.reduceNeg,Int.reduceLT,Int.reduceLE,Int.reduceEq,Int.reduceToNat,reduceCtorEq,reduceIte,Nat.zero_add,Nat.add_zero, *]
      refine CALL_con0 H.out (by simp only [List.append_nil, brwL_cons, brwL_nil, brw_ag, brw_sc, brw_tr, brw_s, Option.map_some, List.nil_append]) ?_
      simp (maxSteps:=1000000) (disch:=omega) only [go_sem,wrapI,wrapB,upd_is,upd_not,Nat.reduceAdd,Nat.reduceSub,Nat.reduceMul,Nat.reduceLeDiff,Nat.reduceEqDiff,Int.reduceAdd,Int.reduceSub,Int.reduceMul,Int.reduceNeg,Int.reduceLT,Int.reduceLE,Int.reduceEq,Int.reduceToNat,reduceCtorEq,reduceIte,Nat.zero_add,Nat.add_zero, *]
      rw [← HR.out]; exact RC_ret rfl rfl
    · rw [eqB_f h2] at H
      rw [eqB_f (by simp [h2])] at HR
      rw [encE_eq, encE_eq] at H
      clear h2
      simp (maxSteps:=1000000) (disch:=omega) only [sh_syntax_Same_c2,go_sem,wrapI,wrapB,upd_is,upd_not,Nat.reduceAdd,Nat.reduceSub,Nat.reduceMul,Nat.reduceLeDiff,Nat.reduceEqDiff,Int.reduceAdd,Int.reduceSub,Int.reduceMul,Int.reduceNeg,Int.reduceLT,Int.reduceLE,Int.reduceEq,Int.reduceToNat,reduceCtorEq,reduceIte,Nat.zero_add,Nat.add_zero, *]
      refine CALL_con0 H.out (by simp only [List.append_nil, brwL_cons, brwL_nil, brw_ag, brw_sc, brw_tr, brw_s, Option.map_some, List.nil_append]) ?_
      simp (maxSteps:=1000000) (disch:=omega) only [go_sem,wrapI,wrapB,upd_is,upd_not,Nat.reduceAdd,Nat.reduceSub,Nat.reduceMul,Nat.reduceLeDiff,Nat.reduceEqDiff,Int.reduceAdd,Int.reduceSub,Int.reduceMul,Int.reduceNeg,Int.reduceLT,Int.reduceLE,Int.reduceEq,Int.reduceToNat,reduceCtorEq,reduceIte,Nat.zero_add,Nat.add_zero, *]
      rw [← HR.out]; exact RC_ret rfl rfl
  · rw [eqB_f (by simp [h1])] at HR
    clear H
    simp (maxSteps:=1000000) (disch:=omega) only [sh_syntax_Same_c2,decide_true,decide_false,go_sem,wrapI,wrapB,upd_is,upd_not,Nat.reduceAdd,Nat.reduceSub,Nat.reduceMul,Nat.reduceLeDiff,Nat.reduceEqDiff,Int.reduceAdd,Int.reduceSub,Int.reduceMul,Int.reduceNeg,Int.reduceLT,Int.reduceLE,Int.reduceEq,Int.reduceToNat,reduceCtorEq,reduceIte,Nat.zero_add,Nat.add_zero, *]
    rw [← HR.out]; exact RC_ret rfl rfl
set_option maxHeartbeats 4000000 in
theorem eqfS_con (l m : List Se) (g : FuncId) (h : ∀ a ∈ l, ∀ b, Con Tryd.prog g [.ag (encS a), .ag (encS b)] (.ret (.sc (.bool (eqB (a = b)))))) :
    Con Tryd.prog 45 [.tr (l.map encS), .tr (m.map encS), .fn g []] (.ret (.sc (.bool (eqB (l = m))))) := by
  refine con_of (by_slices_EqualFunc_lapi_Set_lapi_Set_api_Set_api_Set ?_)
  generalize hR : RC _ = R
  have HR := Lib.hid hR; clear hR
  have IH := Lib.hid h; clear h
  by_cases h1 : (l.length : Int) = m.length
  · simp (maxSteps:=1000000) (disch:=omega) only [sh_slices_EqualFunc_lapi_Set_lapi_Set_api_Set_api_Set,go_sem,wrapI,wrapB,upd_is,upd_not,Nat.reduceAdd,Nat.reduceSub,Nat.reduceMul,Nat.reduceLeDiff,Nat.reduceEqDiff,Int.reduceAdd,Int.reduceSub,Int.reduceMul,Int.reduceNeg,Int.reduceLT,Int.reduceLE,Int.reduceEq,Int.reduceToNat,reduceCtorEq,reduceIte,Nat.zero_add,Nat.add_zero, *]
    intro _ _ _
    refine LOOP_listM l (fun i s σ' n' => (∃ a b c d e f, s = [a, b, c, d, e, f, .sc (.int .i64 i)]) ∧ l.take i = m.take i) (.refl ⟨⟨_, _, _, _, _, _, rfl⟩, rfl⟩) ?_ ?_
    · rintro i x K s' σ' n2 hx hi hi' hn ⟨⟨a, b, c, d, e, f, rfl⟩, hal⟩ hK
      have HK := Lib.hid hK; clear hK
      obtain ⟨y, hy⟩ : ∃ y, m[i]? = some y := ⟨m[i]'(by omega), List.getElem?_eq_getElem _⟩
      have HI := IH.out x (List.mem_of_getElem? hx) y
      have hi2 : (i : Int) < m.length := by omega
      have HT := Lib.hid (take_eq hx hy hal)
      have HN := Lib.hid (take_ne hx hy); clear hal
      simp (maxSteps:=1000000) (disch:=omega) only [lb_slices_EqualFunc_lapi_Set_lapi_Set_api_Set_api_Set2,List.getD_cons_succ,List.getD_cons_zero,go_sem,wrapI,wrapB,upd_is,upd_not,Nat.reduceAdd,Nat.reduceSub,Nat.reduceMul,Nat.reduceLeDiff,Nat.reduceEqDiff,Int.reduceAdd,Int.reduceSub,Int.reduceMul,Int.reduceNeg,Int.reduceLT,Int.reduceLE,Int.reduceEq,Int.reduceToNat,reduceCtorEq,reduceIte,Nat.zero_add,Nat.add_zero, *]
      refine CALL_con0 HI (by simp only [brwL_cons, brwL_nil, brw_ag, brw_tr, brw_sc, encS_brw, List.append_nil, Option.map_some]) ?_
      rw [kc_slices_EqualFunc_lapi_Set_lapi_Set_api_Set_api_Set1, onEnd_ret]
      by_cases hq : x = y
      · have HQ := Lib.hid (HT.out hq); clear HT HN
        rw [eqB_t hq]; clear hq HI
        simp (maxSteps:=1000000) (disch:=omega) only [List.getD_cons_succ,List.getD_cons_zero,go_sem,wrapI,wrapB,upd_is,upd_not,Nat.reduceAdd,Nat.reduceSub,Nat.reduceMul,Nat.reduceLeDiff,Nat.reduceEqDiff,Int.reduceAdd,Int.reduceSub,Int.reduceMul,Int.reduceNeg,Int.reduceLT,Int.reduceLE,Int.reduceEq,Int.reduceToNat,reduceCtorEq,reduceIte,Nat.zero_add,Nat.add_zero, *]
        exact HK.out _ _ _ (.refl ⟨⟨_, _, _, _, _, _, rfl⟩, HQ.out⟩)
      · have HQ := Lib.hid (HN.out hq); clear HT HN
        rw [eqB_f hq]; clear hq HI
        simp (maxSteps:=1000000) (disch:=omega) only [List.getD_cons_succ,List.getD_cons_zero,go_sem,wrapI,wrapB,upd_is,upd_not,Nat.reduceAdd,Nat.reduceSub,Nat.reduceMul,Nat.reduceLeDiff,Nat.reduceEqDiff,Int.reduceAdd,Int.reduceSub,Int.reduceMul,Int.reduceNeg,Int.reduceLT,Int.reduceLE,Int.reduceEq,Int.reduceToNat,reduceCtorEq,reduceIte,Nat.zero_add,Nat.add_zero, *]
        rw [← HR.out, eqB_f HQ.out]; exact RC_ret rfl rfl
    · rintro K s' σ' n2 hn ⟨⟨a, b, c, d, e, f, rfl⟩, hal⟩
      have hlm : l.length = m.length := by omega
      rw [List.take_length, List.take_of_length_le (by omega)] at hal
      have HA := Lib.hid hal; clear hal hlm
      simp (maxSteps:=1000000) (disch:=omega) only [lb_slices_EqualFunc_lapi_Set_lapi_Set_api_Set_api_Set2,Int.lt_irrefl,List.getD_cons_succ,List.getD_cons_zero,go_sem,wrapI,wrapB,upd_is,upd_not,Nat.reduceAdd,Nat.reduceSub,Nat.reduceMul,Nat.reduceLeDiff,Nat.reduceEqDiff,Int.reduceAdd,Int.reduceSub,Int.reduceMul,Int.reduceNeg,Int.reduceLT,Int.reduceLE,Int.reduceEq,Int.reduceToNat,reduceCtorEq,reduceIte,Nat.zero_add,Nat.add_zero, *]
      rw [← HR.out, eqB_t HA.out]; exact RC_ret rfl rfl
  · have hf := Lib.hid (fun e : l = m => h1 (by rw [e]))
    simp (maxSteps:=1000000) (disch:=omega) only [sh_slices_EqualFunc_lapi_Set_lapi_Set_api_Set_api_Set,go_sem,wrapI,wrapB,upd_is,upd_not,Nat.reduceAdd,Nat.reduceSub,Nat.reduceMul,Nat.reduceLeDiff,Nat.reduceEqDiff,Int.reduceAdd,Int.reduceSub,Int.reduceMul,Int.reduceNeg,Int.reduceLT,Int.reduceLE,Int.reduceEq,Int.reduceToNat,reduceCtorEq,reduceIte,Nat.zero_add,Nat.add_zero, *]
    intro _ _
    rw [← HR.out, eqB_f hf.out]; exact RC_ret rfl rfl
set_option maxHeartbeats 4000000 in
theorem eqC_con (l m : List Cl) : Con Tryd.prog 42 [.tr (l.map encC), .tr (m.map encC)] (.ret (.sc (.bool (eqB (l = m))))) := by
  refine con_of (by_slices_Equal_lapi_Column_api_Column ?_)
  generalize hR : RC _ = R
  have HR := Lib.hid hR; clear hR
  by_cases h1 : (l.length : Int) = m.length
  · simp (maxSteps:=1000000) (disch:=omega) only [sh_slices_Equal_lapi_Column_api_Column,go_sem,wrapI,wrapB,upd_is,upd_not,Nat.reduceAdd,Nat.reduceSub,Nat.reduceMul,Nat.reduceLeDiff,Nat.reduceEqDiff,Int.reduceAdd,Int.reduceSub,Int.reduceMul,Int.reduceNeg,Int.reduceLT,Int.reduceLE,Int.reduceEq,Int.reduceToNat,reduceCtorEq,reduceIte,Nat.zero_add,Nat.add_zero, *]
    intro _ _ _
    refine LOOP_listM l (fun i s σ' n' => (∃ a b c d, s = [a, b, c, d, .sc (.int .i64 i)]) ∧ l.take i = m.take i) (.refl ⟨⟨_, _, _, _, rfl⟩, rfl⟩) ?_ ?_
    · rintro i x K s' σ' n2 hx hi hi' hn ⟨⟨a, b, c, d, rfl⟩, hal⟩ hK
      have HK := Lib.hid hK; clear hK
      obtain ⟨y, hy⟩ : ∃ y, m[i]? = some y := ⟨m[i]'(by omega), List.getElem?_eq_getElem _⟩
      have hi2 : (i : Int) < m.length := by omega
      have HT := Lib.hid (take_eq hx hy hal)
      have HN := Lib.hid (take_ne hx hy); clear hal
      obtain ⟨x0, x1, x2⟩ := x
      obtain ⟨y0, y1, y2⟩ := y
      by_cases q0 : x0 = y0
      · skip
        by_cases q1 : x1 = y1
        · skip
          by_cases q2 : x2 = y2
          · skip
            have HQ := Lib.hid (HT.out (by rw [q0, q1, q2])); clear HT HN
            simp (maxSteps:=1000000) (disch:=omega) only [lb_slices_Equal_lapi_Column_api_Column1,encC,List.getD_cons_succ,List.getD_cons_zero,eqK,decide_true,go_sem,wrapI,wrapB,upd_is,upd_not,Nat.reduceAdd,Nat.reduceSub,Nat.reduceMul,Nat.reduceLeDiff,Nat.reduceEqDiff,Int.reduceAdd,Int.reduceSub,Int.reduceMul,Int.reduceNeg,Int.reduceLT,Int.reduceLE,Int.reduceEq,Int.reduceToNat,reduceCtorEq,reduceIte,Nat.zero_add,Nat.add_zero, *]
            exact fun n_ hn_ => HK.out _ _ _ (.refl ⟨⟨_, _, _, _, rfl⟩, HQ.out⟩)
          · have HQ := Lib.hid (HN.out (by simp [q2])); clear HT HN
            simp (maxSteps:=1000000) (disch:=omega) only [lb_slices_Equal_lapi_Column_api_Column1,encC,List.getD_cons_succ,List.getD_cons_zero,eqK,decide_true,decide_false,Bool.and_false,Bool.false_and,go_sem,wrapI,wrapB,upd_is,upd_not,Nat.reduceAdd,Nat.reduceSub,Nat.reduceMul,Nat.reduceLeDiff,Nat.reduceEqDiff,Int.reduceAdd,Int.reduceSub,Int.reduceMul,Int.reduceNeg,Int.reduceLT,Int.reduceLE,Int.reduceEq,Int.reduceToNat,reduceCtorEq,reduceIte,Nat.zero_add,Nat.add_zero, *]
            intro n_ hn_
            rw [← HR.out, eqB_f HQ.out]; exact RC_ret rfl rfl
        · have HQ := Lib.hid (HN.out (by simp [q1])); clear HT HN
          simp (maxSteps:=1000000) (disch:=omega) only [lb_slices_Equal_lapi_Column_api_Column1,encC,List.getD_cons_succ,List.getD_cons_zero,eqK,decide_true,decide_false,Bool.and_false,Bool.false_and,go_sem,wrapI,wrapB,upd_is,upd_not,Nat.reduceAdd,Nat.reduceSub,Nat.reduceMul,Nat.reduceLeDiff,Nat.reduceEqDiff,Int.reduceAdd,Int.reduceSub,Int.reduceMul,Int.reduceNeg,Int.reduceLT,Int.reduceLE,Int.reduceEq,Int.reduceToNat,reduceCtorEq,reduceIte,Nat.zero_add,Nat.add_zero, *]
          intro n_ hn_
          rw [← HR.out, eqB_f HQ.out]; exact RC_ret rfl rfl
      · have HQ := Lib.hid (HN.out (by simp [q0])); clear HT HN
        simp (maxSteps:=1000000) (disch:=omega) only [lb_slices_Equal_lapi_Column_api_Column1,encC,List.getD_cons_succ,List.getD_cons_zero,eqK,decide_true,decide_false,Bool.and_false,Bool.false_and,go_sem,wrapI,wrapB,upd_is,upd_not,Nat.reduceAdd,Nat.reduceSub,Nat.reduceMul,Nat.reduceLeDiff,Nat.reduceEqDiff,Int.reduceAdd,Int.reduceSub,Int.reduceMul,Int.reduceNeg,Int.reduceLT,Int.reduceLE,Int.reduceEq,Int.reduceToNat,reduceCtorEq,reduceIte,Nat.zero_add,Nat.add_zero, *]
        intro n_ hn_
        rw [← HR.out, eqB_f HQ.out]; exact RC_ret rfl rfl
    · rintro K s' σ' n2 hn ⟨⟨a, b, c, d, rfl⟩, hal⟩
      have hlm : l.length = m.length := by omega
      rw [List.take_length, List.take_of_length_le (by omega)] at hal
      have HA := Lib.hid hal; clear hal hlm
      simp (maxSteps:=1000000) (disch:=omega) only [lb_slices_Equal_lapi_Column_api_Column1,Int.lt_irrefl,List.getD_cons_succ,List.getD_cons_zero,go_sem,wrapI,wrapB,upd_is,upd_not,Nat.reduceAdd,Nat.reduceSub,Nat.reduceMul,Nat.reduceLeDiff,Nat.reduceEqDiff,Int.reduceAdd,Int.reduceSub,Int.reduceMul,Int.reduceNeg,Int.reduceLT,Int.reduceLE,Int.reduceEq,Int.reduceToNat,reduceCtorEq,reduceIte,Nat.zero_add,Nat.add_zero, *]
      rw [← HR.out, eqB_t HA.out]; exact RC_ret rfl rfl
  · have hf := Lib.hid (fun e : l = m => h1 (by rw [e]))
    simp (maxSteps:=1000000) (disch:=omega) only [sh_slices_Equal_lapi_Column_api_Column,go_sem,wrapI,wrapB,upd_is,upd_not,Nat.reduceAdd,Nat.reduceSub,Nat.reduceMul,Nat.reduceLeDiff,Nat.reduceEqDiff,Int.reduceAdd,Int.reduceSub,Int.reduceMul,Int.reduceNeg,Int.reduceLT,Int.reduceLE,Int.reduceEq,Int.reduceToNat,reduceCtorEq,reduceIte,Nat.zero_add,Nat.add_zero, *]
    intro _ _
    rw [← HR.out, eqB_f hf.out]; exact RC_ret rfl rfl
set_option maxHeartbeats 4000000 in
theorem eqO_con (l m : List Od) : Con Tryd.prog 43 [.tr (l.map encO), .tr (m.map encO)] (.ret (.sc (.bool (eqB (l = m))))) := by
  refine con_of (by_slices_Equal_lapi_Order_api_Order ?_)
  generalize hR : RC _ = R
  have HR := Lib.hid hR; clear hR
  by_cases h1 : (l.length : Int) = m.length
  · simp (maxSteps:=1000000) (disch:=omega) only [sh_slices_Equal_lapi_Order_api_Order,go_sem,wrapI,wrapB,upd_is,upd_not,Nat.reduceAdd,Nat.reduceSub,Nat.reduceMul,Nat.reduceLeDiff,Nat.reduceEqDiff,Int.reduceAdd,Int.reduceSub,Int.reduceMul,Int.reduceNeg,Int.reduceLT,Int.reduceLE,Int.reduceEq,Int.reduceToNat,reduceCtorEq,reduceIte,Nat.zero_add,Nat.add_zero, *]
    intro _ _ _
    refine LOOP_listM l (fun i s σ' n' => (∃ a b c d, s = [a, b, c, d, .sc (.int .i64 i)]) ∧ l.take i = m.take i) (.refl ⟨⟨_, _, _, _, rfl⟩, rfl⟩) ?_ ?_
    · rintro i x K s' σ' n2 hx hi hi' hn ⟨⟨a, b, c, d, rfl⟩, hal⟩ hK
      have HK := Lib.hid hK; clear hK
      obtain ⟨y, hy⟩ : ∃ y, m[i]? = some y := ⟨m[i]'(by omega), List.getElem?_eq_getElem _⟩
      have hi2 : (i : Int) < m.length := by omega
      have HT := Lib.hid (take_eq hx hy hal)
      have HN := Lib.hid (take_ne hx hy); clear hal
      obtain ⟨x0, x1⟩ := x
      obtain ⟨y0, y1⟩ := y
      by_cases q0 : x0 = y0
      · skip
        by_cases q1 : x1 = y1
        · skip
          have HQ := Lib.hid (HT.out (by rw [q0, q1])); clear HT HN
          simp (maxSteps:=1000000) (disch:=omega) only [lb_slices_Equal_lapi_Order_api_Order1,encO,List.getD_cons_succ,List.getD_cons_zero,eqK,decide_true,go_sem,wrapI,wrapB,upd_is,upd_not,Nat.reduceAdd,Nat.reduceSub,Nat.reduceMul,Nat.reduceLeDiff,Nat.reduceEqDiff,Int.reduceAdd,Int.reduceSub,Int.reduceMul,Int.reduceNeg,Int.reduceLT,Int.reduceLE,Int.reduceEq,Int.reduceToNat,reduceCtorEq,reduceIte,Nat.zero_add,Nat.add_zero, *]
          exact fun n_ hn_ => HK.out _ _ _ (.refl ⟨⟨_, _, _, _, rfl⟩, HQ.out⟩)
        · have HQ := Lib.hid (HN.out (by simp [q1])); clear HT HN
          simp (maxSteps:=1000000) (disch:=omega) only [lb_slices_Equal_lapi_Order_api_Order1,encO,List.getD_cons_succ,List.getD_cons_zero,eqK,decide_true,decide_false,Bool.and_false,Bool.false_and,go_sem,wrapI,wrapB,upd_is,upd_not,Nat.reduceAdd,Nat.reduceSub,Nat.reduceMul,Nat.reduceLeDiff,Nat.reduceEqDiff,Int.reduceAdd,Int.reduceSub,Int.reduceMul,Int.reduceNeg,Int.reduceLT,Int.reduceLE,Int.reduceEq,Int.reduceToNat,reduceCtorEq,reduceIte,Nat.zero_add,Nat.add_zero, *]
          intro n_ hn_
          rw [← HR.out, eqB_f HQ.out]; exact RC_ret rfl rfl
      · have HQ := Lib.hid (HN.out (by simp [q0])); clear HT HN
        simp (maxSteps:=1000000) (disch:=omega) only [lb_slices_Equal_lapi_Order_api_Order1,encO,List.getD_cons_succ,List.getD_cons_zero,eqK,decide_true,decide_false,Bool.and_false,Bool.false_and,go_sem,wrapI,wrapB,upd_is,upd_not,Nat.reduceAdd,Nat.reduceSub,Nat.reduceMul,Nat.reduceLeDiff,Nat.reduceEqDiff,Int.reduceAdd,Int.reduceSub,Int.reduceMul,Int.reduceNeg,Int.reduceLT,Int.reduceLE,Int.reduceEq,Int.reduceToNat,reduceCtorEq,reduceIte,Nat.zero_add,Nat.add_zero, *]
        intro n_ hn_
        rw [← HR.out, eqB_f HQ.out]; exact RC_ret rfl rfl
    · rintro K s' σ' n2 hn ⟨⟨a, b, c, d, rfl⟩, hal⟩
      have hlm : l.length = m.length := by omega
      rw [List.take_length, List.take_of_length_le (by omega)] at hal
      have HA := Lib.hid hal; clear hal hlm
      simp (maxSteps:=1000000) (disch:=omega) only [lb_slices_Equal_lapi_Order_api_Order1,Int.lt_irrefl,List.getD_cons_succ,List.getD_cons_zero,go_sem,wrapI,wrapB,upd_is,upd_not,Nat.reduceAdd,Nat.reduceSub,Nat.reduceMul,Nat.reduceLeDiff,Nat.reduceEqDiff,Int.reduceAdd,Int.reduceSub,Int.reduceMul,Int.reduceNeg,Int.reduceLT,Int.reduceLE,Int.reduceEq,Int.reduceToNat,reduceCtorEq,reduceIte,Nat.zero_add,Nat.add_zero, *]
      rw [← HR.out, eqB_t HA.out]; exact RC_ret rfl rfl
  · have hf := Lib.hid (fun e : l = m => h1 (by rw [e]))
    simp (maxSteps:=1000000) (disch:=omega) only [sh_slices_Equal_lapi_Order_api_Order,go_sem,wrapI,wrapB,upd_is,upd_not,Nat.reduceAdd,Nat.reduceSub,Nat.reduceMul,Nat.reduceLeDiff,Nat.reduceEqDiff,Int.reduceAdd,Int.reduceSub,Int.reduceMul,Int.reduceNeg,Int.reduceLT,Int.reduceLE,Int.reduceEq,Int.reduceToNat,reduceCtorEq,reduceIte,Nat.zero_add,Nat.add_zero, *]
    intro _ _
    rw [← HR.out, eqB_f hf.out]; exact RC_ret rfl rfl
end Go.Proofs.YtodoejfkjimeaaaDoor

set_option linter.unusedSimpArgs false
set_option linter.unusedVariables false
namespace Go.Proofs.YtodoejfkjimeaaaDoor
open Go Go.RowKit Am

def rng (n : Int) : Prop := -9223372036854775808 ≤ n ∧ n ≤ 9223372036854775807
inductive Rg : Ep → Prop
  | mk (e : Ep) (h : rng e.n) (ha : ∀ a ∈ e.args, Rg a) : Rg e
theorem Rg.arg {e a : Ep} {i : Nat} (h : Rg e) (hx : e.args[i]? = some a) : Rg a := by
  cases h with
  | mk e h ha => exact ha a (List.mem_of_getElem? hx)
end Go.Proofs.YtodoejfkjimeaaaDoor

set_option linter.unusedSimpArgs false
set_option linter.unusedVariables false
set_option maxRecDepth 100000
namespace Go.Proofs.YtodoejfkjimeaaaDoor
open Go Go.RowKit Am Go.ChangeShapes Go.WideShapes Go.ChangeAt

abbrev noB : Nat → Prop := fun _ => False
theorem bulk_pos {H : Type} (d : DataW H) : 1 ≤ Rows.uptoBulk d := by
  cases d with
  | lit l => cases l <;> simp [Rows.uptoBulk]
  | nil => simp [Rows.uptoBulk]
  | ptr d => simp [Rows.uptoBulk]
  | slice elems spare => simp [Rows.uptoBulk]
  | agg parts => simp [Rows.uptoBulk]
  | iface t d => simp [Rows.uptoBulk]
  | map entries => simp [Rows.uptoBulk]
  | held h => simp [Rows.uptoBulk]
theorem bulk_part {H : Type} {d : DataW H} {l : List (DataW H)} (h : d ∈ l) : Rows.uptoBulk d ≤ Rows.uptoBulkAll l := by
  induction l with
  | nil => cases h
  | cons x r ih =>
    simp only [Rows.uptoBulkAll]
    cases List.mem_cons.1 h with
    | inl e => subst e; omega
    | inr e => have := ih e; omega
theorem bulk_length {H : Type} (l : List (DataW H)) : l.length ≤ Rows.uptoBulkAll l := by
  induction l with
  | nil => simp [Rows.uptoBulkAll]
  | cons x r ih => have := bulk_pos x; simp only [Rows.uptoBulkAll, List.length_cons]; omega
def Opens {α : Type} (t : TypeId) (k : Nat) (f : α → List AV) (B : α → Prop) (n : Nat) : Prop :=
  ∀ {H : Type} (enc : TypeId × Value → H) (W : World) (cs : List Value) (x : DataW H × List MemPlace), DataW.trod enc Tryd.prog W 0 (fun _ => true) true n t cs = some x → Rows.uptoBulk x.1 ≤ 1048576 →
    ∃ a, B a ∧ cs.length = k ∧ (f a).length = k ∧ ∀ (i : Nat) (u : Value) (v : AV), cs[i]? = some u → (f a)[i]? = some v → Rel noB W nob u v
theorem one_rel {W : World} {c : Value} {z : AV} (h : Rel noB W nob c z) : ∀ (i : Nat) (u : Value) (v : AV), [c][i]? = some u → [z][i]? = some v → Rel noB W nob u v := by
  intro i u v h1 h2
  cases i with
  | zero => cases h1; cases h2; exact h
  | succ i => cases h1
theorem int_range {m : Int} (h : (Lit.int .i64 m).wf = true) : -9223372036854775808 ≤ m ∧ m ≤ 9223372036854775807 := by
  simp only [Lit.wf, Bool.and_eq_true, decide_eq_true_eq] at h
  have h1 : IntKind.i64.min = -9223372036854775808 := by kernel_rfl
  have h2 : IntKind.i64.max = 9223372036854775807 := by kernel_rfl
  rw [h1, h2] at h; exact h
theorem opens_int (n : Nat) : Opens 3 1 (fun m : Int => [.sc (.int .i64 m)]) (fun m => -9223372036854775808 ≤ m ∧ m ≤ 9223372036854775807) n := by
  intro H enc W cs x h hb
  obtain ⟨m, rfl, rfl, hw⟩ := DataW.trod_int Tryd.underlying3 h
  exact ⟨m, int_range hw, rfl, rfl, one_rel (.sc _)⟩
theorem opens_bool (n : Nat) : Opens 4 1 (fun m : Bool => [.sc (.bool m)]) (fun _ => True) n := by
  intro H enc W cs x h hb
  obtain ⟨m, rfl, rfl⟩ := DataW.trod_bool Tryd.underlying4 h
  exact ⟨m, trivial, rfl, rfl, one_rel (.sc _)⟩
theorem opens_str (n : Nat) : Opens 9 1 (fun m : Tx => [.s m]) (fun m => m.length ≤ 1048576) n := by
  intro H enc W cs x h hb
  obtain ⟨m, rfl, rfl, _⟩ := DataW.trod_string Tryd.underlying9 h
  simp only [Rows.uptoBulk] at hb
  have hl : m.data.toList.length ≤ 1048576 := by omega
  exact ⟨m.data.toList, hl, rfl, rfl, one_rel (.s m _ rfl (by omega))⟩
theorem opens_slice {α : Type} [Inhabited α] {t e : TypeId} {k : Nat} {f : α → List AV} {B : α → Prop} (ht : Tryd.prog.underlying t = some (.slice e)) (hc : Tryd.prog.cellsOf e = k) (hk : 0 < k) (n : Nat) (ho : ∀ m, m < n → Opens e k f B m) :
    Opens t 1 (fun l : List α => [.tr (l.map f)]) (fun l => l.length ≤ 1048576 ∧ ∀ a ∈ l, B a) n := by
  intro H enc W cs x h hb
  rcases DataW.trod_slice ht h with ⟨rfl, rfl⟩ | ⟨ad, len, cap, elems, rest, m, rfl, rfl, rfl, hbase, hl, hm, hlen, hel, _⟩
  · refine ⟨[], ⟨by simp, fun a ha => by cases ha⟩, rfl, rfl, one_rel ?_⟩
    exact .tr none 0 1 [] (fun _ _ => undef) (by omega) (by simp) (by simp) (fun r hr => by cases hr) (fun h => absurd rfl h) (fun ad i j h => by cases h) (fun i j r a h => by simp at h)
  · simp only [Rows.uptoBulk] at hb
    have hbe : Rows.uptoBulkAll (elems.map (·.1)) ≤ 1048576 := by omega
    have hle : elems.length ≤ 1048576 := by
      have := bulk_length (elems.map (·.1))
      rw [List.length_map] at this; omega
    have hx : ∀ i, i < len → ∃ q : List Value × α, W.cells? 0 (ad.add (i * k)) k = some q.1 ∧ B q.2 ∧ q.1.length = k ∧ (f q.2).length = k ∧ ∀ (j : Nat) (u : Value) (v : AV), q.1[j]? = some u → (f q.2)[j]? = some v → Rel noB W nob u v := by
      intro i hi
      have h1 := hel i hi
      rw [hc, List.getElem?_eq_getElem (by omega)] at h1
      obtain ⟨cs', h2, h3⟩ := Option.bind_eq_some_iff.1 h1
      obtain ⟨a, g1, g2, g3, g4⟩ := ho m (by omega) enc W cs' _ h3 (Nat.le_trans (bulk_part (List.mem_map.2 ⟨_, List.getElem_mem _, rfl⟩)) hbe)
      exact ⟨(cs', a), h2, g1, g2, g3, g4⟩
    obtain ⟨q, hq⟩ := _root_.Go.Deep.choose_lt hx
    have hrl : (((List.range len).map fun i => (q i).2).map f).length = len := by simp
    have hrow : ∀ i, i < len → (((List.range len).map fun i => (q i).2).map f)[i]? = some (f (q i).2) := by
      intro i hi
      simp [hi]
    refine ⟨(List.range len).map fun i => (q i).2, ⟨by simp; omega, fun a ha => ?_⟩, rfl, rfl, one_rel ?_⟩
    · obtain ⟨i, hi, rfl⟩ := List.mem_map.1 ha
      exact (hq i (List.mem_range.1 hi)).2.1
    · have := Rel.tr (M := noB) (w := W) (β := nob) (some ad) cap k (((List.range len).map fun i => (q i).2).map f) (fun i j => ((q i).1)[j]?.getD undef) hk (by rw [hrl]; exact hl) (by rw [hrl]; omega)
        (fun r hr => by
          obtain ⟨a, ha, rfl⟩ := List.mem_map.1 hr
          obtain ⟨i, hi, rfl⟩ := List.mem_map.1 ha
          exact (hq i (List.mem_range.1 hi)).2.2.2.1)
        (fun _ => ⟨ad, rfl, fun h => h⟩)
        (fun ad' i j he hi hj => by
          cases he
          rw [hrl] at hi
          obtain ⟨c1, c2, c3, _⟩ := hq i hi
          obtain ⟨_, _, d3⟩ := World.cells?_some c1
          have := d3 j hj
          rw [show (ad.add (i * k + j)) = (ad.add (i * k)).add j by rw [Addr.add_add]]
          rw [this, List.getElem?_eq_getElem (by omega)]; rfl)
        (fun i j r a h1 h2 => by
          have hi : i < len := by have := (List.getElem?_eq_some_iff.1 h1).1; rw [hrl] at this; exact this
          rw [hrow i hi] at h1
          cases h1
          obtain ⟨_, _, c3, c4, c5⟩ := hq i hi
          have hj : j < k := by have := (List.getElem?_eq_some_iff.1 h2).1; omega
          refine c5 j _ a ?_ h2
          rw [List.getElem?_eq_getElem (by omega)]; rfl)
      rw [hrl] at this
      exact this
def encV (v : Vl) : List AV := [.sc (.int .i64 v.kind), .sc (.int .i64 v.n), .s v.text]
instance : Inhabited Vl := ⟨⟨0, 0, []⟩⟩
instance : Inhabited Cl := ⟨⟨[], 0, false⟩⟩
instance : Inhabited Ix := ⟨⟨[], 0⟩⟩
instance : Inhabited Tb := ⟨⟨[], [], 0, []⟩⟩
instance : Inhabited Ep := ⟨.zero⟩
theorem opens_Value (n : Nat) : Opens 23 3 encV (fun v => v.text.length ≤ 1048576 ∧ rng v.n) n := by
  intro H enc W cs x h hb
  obtain ⟨xs, m, rfl, rfl, hl, hlen, hf⟩ := DataW.trod_struct Tryd.underlying23 h
  have hc : Tryd.prog.cellsOf 23 = 3 := by kernel_rfl
  rw [hc] at hl
  simp only [Rows.uptoBulk] at hb
  match cs, hl, xs, hlen, hf, hb with
  | [c0, c1, c2], _, [y0, y1, y2], _, hf, hb =>
    simp only [List.map_cons, List.map_nil, Rows.uptoBulkAll] at hb
    have z0 : Tryd.prog.cellsOf 3 = 1 := by kernel_rfl
    have f0 : DataW.trod enc Tryd.prog W 0 (fun _ => true) true m 3 [c0] = some y0 := by have this : DataW.trod enc Tryd.prog W 0 (fun _ => true) true m 3 (([c0, c1, c2].drop 0).take (Tryd.prog.cellsOf 3)) = some y0 := hf 0 _ rfl; rw [z0] at this; exact this
    obtain ⟨a0, b0, _, _, r0⟩ := opens_int m enc W _ _ f0 (by omega)
    have z1 : Tryd.prog.cellsOf 3 = 1 := by kernel_rfl
    have f1 : DataW.trod enc Tryd.prog W 0 (fun _ => true) true m 3 [c1] = some y1 := by have this : DataW.trod enc Tryd.prog W 0 (fun _ => true) true m 3 (([c0, c1, c2].drop 1).take (Tryd.prog.cellsOf 3)) = some y1 := hf 1 _ rfl; rw [z1] at this; exact this
    obtain ⟨a1, b1, _, _, r1⟩ := opens_int m enc W _ _ f1 (by omega)
    have z2 : Tryd.prog.cellsOf 9 = 1 := by kernel_rfl
    have f2 : DataW.trod enc Tryd.prog W 0 (fun _ => true) true m 9 [c2] = some y2 := by have this : DataW.trod enc Tryd.prog W 0 (fun _ => true) true m 9 (([c0, c1, c2].drop 2).take (Tryd.prog.cellsOf 9)) = some y2 := hf 2 _ rfl; rw [z2] at this; exact this
    obtain ⟨a2, b2, _, _, r2⟩ := opens_str m enc W _ _ f2 (by omega)
    refine ⟨⟨a0, a1, a2⟩, ⟨b2, b1⟩, rfl, rfl, ?_⟩
    intro i u v h1 h2
    match i, h1, h2 with
    | 0, h1, h2 => exact r0 0 u v h1 h2
    | 1, h1, h2 => exact r1 0 u v h1 h2
    | 2, h1, h2 => exact r2 0 u v h1 h2
    | i + 3, h1, h2 => cases h1
theorem opens_Column (n : Nat) : Opens 72 3 encC (fun v => v.name.length ≤ 1048576) n := by
  intro H enc W cs x h hb
  obtain ⟨xs, m, rfl, rfl, hl, hlen, hf⟩ := DataW.trod_struct Tryd.underlying72 h
  have hc : Tryd.prog.cellsOf 72 = 3 := by kernel_rfl
  rw [hc] at hl
  simp only [Rows.uptoBulk] at hb
  match cs, hl, xs, hlen, hf, hb with
  | [c0, c1, c2], _, [y0, y1, y2], _, hf, hb =>
    simp only [List.map_cons, List.map_nil, Rows.uptoBulkAll] at hb
    have z0 : Tryd.prog.cellsOf 9 = 1 := by kernel_rfl
    have f0 : DataW.trod enc Tryd.prog W 0 (fun _ => true) true m 9 [c0] = some y0 := by have this : DataW.trod enc Tryd.prog W 0 (fun _ => true) true m 9 (([c0, c1, c2].drop 0).take (Tryd.prog.cellsOf 9)) = some y0 := hf 0 _ rfl; rw [z0] at this; exact this
    obtain ⟨a0, b0, _, _, r0⟩ := opens_str m enc W _ _ f0 (by omega)
    have z1 : Tryd.prog.cellsOf 3 = 1 := by kernel_rfl
    have f1 : DataW.trod enc Tryd.prog W 0 (fun _ => true) true m 3 [c1] = some y1 := by have this : DataW.trod enc Tryd.prog W 0 (fun _ => true) true m 3 (([c0, c1, c2].drop 1).take (Tryd.prog.cellsOf 3)) = some y1 := hf 1 _ rfl; rw [z1] at this; exact this
    obtain ⟨a1, b1, _, _, r1⟩ := opens_int m enc W _ _ f1 (by omega)
    have z2 : Tryd.prog.cellsOf 4 = 1 := by kernel_rfl
    have f2 : DataW.trod enc Tryd.prog W 0 (fun _ => true) true m 4 [c2] = some y2 := by have this : DataW.trod enc Tryd.prog W 0 (fun _ => true) true m 4 (([c0, c1, c2].drop 2).take (Tryd.prog.cellsOf 4)) = some y2 := hf 2 _ rfl; rw [z2] at this; exact this
    obtain ⟨a2, b2, _, _, r2⟩ := opens_bool m enc W _ _ f2 (by omega)
    refine ⟨⟨a0, a1, a2⟩, b0, rfl, rfl, ?_⟩
    intro i u v h1 h2
    match i, h1, h2 with
    | 0, h1, h2 => exact r0 0 u v h1 h2
    | 1, h1, h2 => exact r1 0 u v h1 h2
    | 2, h1, h2 => exact r2 0 u v h1 h2
    | i + 3, h1, h2 => cases h1
structure TBd0 (t : Tb) : Prop where
  name : t.name.length ≤ 1048576
  col : t.columns.length ≤ 1048576 ∧ ∀ c ∈ t.columns, c.name.length ≤ 1048576
  ind : t.indexes.length ≤ 1048576 ∧ ∀ c ∈ t.indexes, c.name.length ≤ 1048576
theorem cols_C : Tryd.prog.cellsOf 72 = 3 := by kernel_rfl
def BdRg (e : Ep) : Prop := Bd e ∧ Rg e
theorem cols_E : Tryd.prog.cellsOf 26 = 7 := by kernel_rfl
theorem opens_Expr_ (n : Nat) (ih : ∀ q, q < n → Opens 26 7 encE BdRg q) : Opens 26 7 encE BdRg n := by
  intro H enc W cs x h hb
  obtain ⟨xs, m, rfl, rfl, hl, hlen, hf⟩ := DataW.trod_struct Tryd.underlying26 h
  have hc : Tryd.prog.cellsOf 26 = 7 := by kernel_rfl
  rw [hc] at hl
  simp only [Rows.uptoBulk] at hb
  match cs, hl, xs, hlen, hf, hb with
  | [c0, c1, c2, c3, c4, c5, c6], _, [y0, y1, y2, y3, y4], _, hf, hb =>
    simp only [List.map_cons, List.map_nil, Rows.uptoBulkAll] at hb
    have z0 : Tryd.prog.cellsOf 3 = 1 := by kernel_rfl
    have f0 : DataW.trod enc Tryd.prog W 0 (fun _ => true) true m 3 [c0] = some y0 := by have this : DataW.trod enc Tryd.prog W 0 (fun _ => true) true m 3 (([c0, c1, c2, c3, c4, c5, c6].drop 0).take (Tryd.prog.cellsOf 3)) = some y0 := hf 0 _ rfl; rw [z0] at this; exact this
    obtain ⟨a0, b0, _, _, r0⟩ := opens_int m enc W _ _ f0 (by omega)
    have z1 : Tryd.prog.cellsOf 23 = 3 := by kernel_rfl
    have f1 : DataW.trod enc Tryd.prog W 0 (fun _ => true) true m 23 [c1, c2, c3] = some y1 := by have this : DataW.trod enc Tryd.prog W 0 (fun _ => true) true m 23 (([c0, c1, c2, c3, c4, c5, c6].drop 1).take (Tryd.prog.cellsOf 23)) = some y1 := hf 1 _ rfl; rw [z1] at this; exact this
    obtain ⟨a1, b1, _, _, r1⟩ := opens_Value m enc W _ _ f1 (by omega)
    have z2 : Tryd.prog.cellsOf 9 = 1 := by kernel_rfl
    have f2 : DataW.trod enc Tryd.prog W 0 (fun _ => true) true m 9 [c4] = some y2 := by have this : DataW.trod enc Tryd.prog W 0 (fun _ => true) true m 9 (([c0, c1, c2, c3, c4, c5, c6].drop 4).take (Tryd.prog.cellsOf 9)) = some y2 := hf 2 _ rfl; rw [z2] at this; exact this
    obtain ⟨a2, b2, _, _, r2⟩ := opens_str m enc W _ _ f2 (by omega)
    have z3 : Tryd.prog.cellsOf 9 = 1 := by kernel_rfl
    have f3 : DataW.trod enc Tryd.prog W 0 (fun _ => true) true m 9 [c5] = some y3 := by have this : DataW.trod enc Tryd.prog W 0 (fun _ => true) true m 9 (([c0, c1, c2, c3, c4, c5, c6].drop 5).take (Tryd.prog.cellsOf 9)) = some y3 := hf 3 _ rfl; rw [z3] at this; exact this
    obtain ⟨a3, b3, _, _, r3⟩ := opens_str m enc W _ _ f3 (by omega)
    have z4 : Tryd.prog.cellsOf 24 = 1 := by kernel_rfl
    have f4 : DataW.trod enc Tryd.prog W 0 (fun _ => true) true m 24 [c6] = some y4 := by have this : DataW.trod enc Tryd.prog W 0 (fun _ => true) true m 24 (([c0, c1, c2, c3, c4, c5, c6].drop 6).take (Tryd.prog.cellsOf 24)) = some y4 := hf 4 _ rfl; rw [z4] at this; exact this
    obtain ⟨a4, b4, _, _, r4⟩ := opens_slice Tryd.underlying24 cols_E (by omega) m (fun q hq => ih q (by omega)) enc W _ _ f4 (by omega)
    refine ⟨.mk a0 a1.kind a1.n a1.text a2 a3 a4, ⟨.mk _ _ _ _ _ _ _ b1.1 b2 b3 b4.1 (fun a ha => (b4.2 a ha).1), .mk _ b1.2 (fun a ha => (b4.2 a ha).2)⟩, rfl, encE_len _, ?_⟩
    rw [encE_eq]
    intro i u v h1 h2
    match i, h1, h2 with
    | 0, h1, h2 => exact r0 0 u v h1 h2
    | 1, h1, h2 => exact r1 0 u v h1 h2
    | 2, h1, h2 => exact r1 1 u v h1 h2
    | 3, h1, h2 => exact r1 2 u v h1 h2
    | 4, h1, h2 => exact r2 0 u v h1 h2
    | 5, h1, h2 => exact r3 0 u v h1 h2
    | 6, h1, h2 => exact r4 0 u v h1 h2
    | i + 7, h1, h2 => cases h1
theorem opens_Expr (n : Nat) : Opens 26 7 encE BdRg n := by
  induction n using Nat.strongRecOn with
  | _ n ih => exact opens_Expr_ n ih
end Go.Proofs.YtodoejfkjimeaaaDoor

set_option linter.unusedSimpArgs false
set_option linter.unusedVariables false
set_option maxRecDepth 100000
namespace Go.Proofs.YtodoejfkjimeaaaDoor
open Go Go.RowKit Am Go.ChangeShapes Go.WideShapes Go.ChangeAt

theorem laid_out : laidOutB Tryd.prog = true := by kernel_rfl
theorem Fr.below {w w' : World} (h : Fr w (fun _ => False) w') : Below w.heap.size w w' := ⟨h.os, h.tape, h.output, h.size, fun k hk => h.block k hk (fun h => h)⟩
theorem trodAll_below {H : Type} {enc : TypeId × Value → H} {W W' : World} (hb : Below W.heap.size W W') : ∀ {ts : List TypeId} {vs : List Value} {ds : List (DataW H)} {ps : List MemPlace}, (∀ t ∈ ts, Tryd.prog.readableRec t = true ∧ t < Tryd.prog.types.size) →
    DataW.TrodAll enc Tryd.prog W 0 (fun _ => true) true ts vs ds ps → DataW.TrodAll enc Tryd.prog W' 0 (fun b => decide (b < W.heap.size)) true ts vs ds ps
  | [], vs, ds, ps, _, h => by
    obtain ⟨rfl, rfl, rfl⟩ := trodAll_nil h
    exact trodAll_mk0
  | t :: ts, vs, ds, ps, hr, h => by
    obtain ⟨v, vs, d, ds, p, q, rfl, rfl, rfl, h0, r0⟩ := trodAll_cons h
    refine trodAll_cons_mk (Below.trod laid_out (hr t (List.mem_cons_self ..)).1 (hr t (List.mem_cons_self ..)).2 h0 hb (fun x hx => ?_)) (trodAll_below hb (fun t ht => hr t (List.mem_cons_of_mem _ ht)) r0)
    obtain ⟨m, hm⟩ := h0
    exact DataW.trod_lt m _ _ _ hm x hx
theorem post_true {H : Type} {enc : TypeId × Value → H} {f : Func} {s : ChangeSpec} {W W' : World} {args : Array Value} {ds gs : List (DataW H)} {before : List MemPlace} (hv : s.vars = []) (hr : f.resultTypes = #[4])
    (hp : ∀ t ∈ f.params.toList, Tryd.prog.readableRec t = true ∧ t < Tryd.prog.types.size) (hW : DataW.Whole enc Tryd.prog f.params.toList s.vars false W args.toList ds gs before)
    (hs : s.fn H (ds ++ gs) = { results := [.lit (.bool true)], args := ds }) (hb : Below W.heap.size W W') : s.post enc Tryd.prog f false true false false W args (.bool true) W' := by
  have hW' := hW
  rw [hv] at hW
  obtain ⟨p, q, hA, hV, rfl, hfz, hnd⟩ := hW
  obtain ⟨rfl, rfl⟩ := trodVars_none hV
  refine ⟨ds, [], p ++ [], [], p, [], hW', ?_, ?_, ?_, hb.frame _, fun h => by cases h⟩
  · rw [hs, hr]; exact trodAll_cons_mk (shut_bool Tryd.underlying4 _) trodAll_mk0
  · rw [hs]; exact trodAll_below hb hp hA
  · rw [hs, hv]; rfl
theorem agg_of_cells {v : Value} {cs : List Value} (h : v.cells.toList = cs) (h2 : 2 ≤ cs.length) : v = .agg cs.toArray := by
  cases v <;> simp [Value.cells] at h <;> subst h <;> simp at h2 ⊢
theorem rel_agg {α : Type} {t : TypeId} {k : Nat} {f : α → List AV} {B : α → Prop} (hk : 2 ≤ k) (ho : ∀ n, Opens t k f B n) {H : Type} {enc : TypeId × Value → H} {W : World} {v : Value} {d : DataW H} {ps : List MemPlace} (h : DataW.Trod enc Tryd.prog W 0 (fun _ => true) true t v d ps) (hb : Rows.uptoBulk d ≤ 1048576) :
    ∃ a, B a ∧ Rel noB W nob v (.ag (f a)) := by
  obtain ⟨n, hn⟩ := h
  obtain ⟨a, h1, h2, h3, h4⟩ := ho n enc W _ _ hn hb
  refine ⟨a, h1, ?_⟩
  rw [agg_of_cells rfl (by omega : 2 ≤ v.cells.toList.length)]
  refine .ag _ _ (by simp at h2 ⊢; omega) (fun i u z hu hz => h4 i u z ?_ hz)
  simpa using hu
theorem away_of {W : World} (h : W.ShapedOpen Tryd.prog) : Aw noB noB W := by
  obtain ⟨m, hm⟩ := sh_MaxLen h
  exact ⟨fun b hb => hb.elim, fun h => h, fun h => h, m, hm⟩
end Go.Proofs.YtodoejfkjimeaaaDoor
