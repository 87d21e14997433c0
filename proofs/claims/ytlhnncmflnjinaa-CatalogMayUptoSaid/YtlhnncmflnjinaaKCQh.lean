/- Packed by a program of this repo: Qh. -/
import Derived.Test.YtlhnncmflnjinaaKCQg
import Derived.Test.YtlhnncmflnjinaaKCPb
set_option linter.unusedSimpArgs false
set_option linter.unusedVariables false
set_option maxRecDepth 100000
namespace Go.Proofs.Ytlhnncmflnjinaa
open Go Go.RowKit Am
attribute [-go_sem] guardP_if guardK_if guardD_if COND_bool
attribute [local go_sem low] guardP_if guardK_if guardD_if COND_bool

abbrev tb0 : Tb := ⟨[], [], 0, []⟩
set_option maxHeartbeats 8000000 in
theorem bsT_con (g : FuncId) (caps : List AV) (c : Tb → Int) (l : List Tb) (x : Tx) (hc : ∀ σ, brwL σ 6 caps = some (caps, [])) (h : ∀ r ∈ l, Con Try.prog g ([.ag (encT r), .s x] ++ caps) (.ret (.sc (.int .i64 (c r))))) :
    Con Try.prog 110 [.tr (l.map encT), .s x, .fn g caps]
      (.ret (.tp [.sc (.int .i64 (bsL (fun t => decide (c (l.getD t tb0) < 0)) l.length 0 l.length : Nat)), .sc (.bool (decide (bsL (fun t => decide (c (l.getD t tb0) < 0)) l.length 0 l.length < l.length) && decide (c (l.getD (bsL (fun t => decide (c (l.getD t tb0) < 0)) l.length 0 l.length) tb0) = 0)))])) := by
  refine con_of (by_slices_BinarySearchFunc_lcatalog_Table_catalog_Table_string ?_)
  generalize hR : RC _ = R
  have HR := Lib.hid hR; clear hR
  obtain ⟨less, hless⟩ : ∃ less : Nat → Bool, less = fun t => decide (c (l.getD t tb0) < 0) := ⟨_, rfl⟩
  rw [← hless] at HR
  have HL := Lib.hid hless; clear hless
  have H := Lib.hid h; clear h
  have HC := Lib.hid hc; clear hc
  simp (maxSteps := 1000000) (disch := omega) only [sh_slices_BinarySearchFunc_lcatalog_Table_catalog_Table_string, go_sem, wrapI, wrapB, upd_is, upd_not, Nat.reduceAdd, Nat.reduceSub, Nat.reduceMul, Nat.reduceLeDiff, Nat.reduceEqDiff, Int.reduceAdd, Int.reduceSub, Int.reduceMul, Int.reduceNeg, Int.reduceLT, Int.reduceLE, Int.reduceEq, Int.reduceToNat, reduceCtorEq, reduceIte, Nat.zero_add, Nat.add_zero, *]
  intro hbnd
  try simp only [List.length_map] at hbnd
  refine LOOP_still l.length (fun i s => ∃ (u1 u2 u3 : AV) (lo hi : Nat), s = [u1, u2, u3, .sc (.int .i64 lo), .sc (.int .i64 hi)] ∧ lo ≤ hi ∧ hi ≤ l.length ∧ hi - lo + i ≤ l.length ∧ bsL less l.length 0 l.length = bsL less (l.length - i) lo hi) ⟨_, _, _, 0, l.length, rfl, Nat.zero_le _, Nat.le_refl _, by omega, rfl⟩ ?_
  rintro i K s' n' hn hil hlen ⟨u1, u2, u3, lo, hi, rfl, h1, h2, h3, h4⟩ hK
  have HK := Lib.hid hK; clear hK
  have H4 := Lib.hid h4; clear h4
  by_cases hlt : lo < hi
  · have hlt' : (lo : Int) < hi := by omega
    have hm := mid_eq (a := lo) (b := hi) (by omega)
    have hml : (lo + hi) / 2 < l.length := by omega
    obtain ⟨m, hmm⟩ : ∃ m, m = (lo + hi) / 2 := ⟨_, rfl⟩
    rw [← hmm] at hm hml
    have hx : l[m]? = some l[m] := List.getElem?_eq_getElem hml
    generalize l[m] = r at hx
    have hg : l.getD m tb0 = r := by rw [List.getD_eq_getElem?_getD, hx]; rfl
    have HG := Lib.hid hg; clear hg
    have HM := Lib.hid hmm; clear hmm
    have hil' : i < l.length := by omega
    have hle : less m = decide (c r < 0) := by rw [HL.out]; simp only [HG.out]
    have HLE := Lib.hid hle; clear hle
    have hcon := H.out r (List.mem_of_getElem? hx)
    have HN := Lib.hid hcon; clear hcon
    have hstep : l.length - i = (l.length - (i + 1)) + 1 := by omega
    have HS := Lib.hid hstep; clear hstep
    simp (maxSteps := 1000000) (disch := omega) only [lb_slices_BinarySearchFunc_lcatalog_Table_catalog_Table_string3, decide_true, go_sem, wrapI, wrapB, upd_is, upd_not, Nat.reduceAdd, Nat.reduceSub, Nat.reduceMul, Nat.reduceLeDiff, Nat.reduceEqDiff, Int.reduceAdd, Int.reduceSub, Int.reduceMul, Int.reduceNeg, Int.reduceLT, Int.reduceLE, Int.reduceEq, Int.reduceToNat, reduceCtorEq, reduceIte, Nat.zero_add, Nat.add_zero, *]
    refine CALL_con0 HN.out (by simp only [List.cons_append, List.nil_append, brwL_cons, brwL_nil, brw_tr, brw_ag, encV_brw, HC.out, List.append_nil, Option.map_some, brw_s, encT_brw]) ?_
    by_cases hlt0 : c r < 0
    · simp (maxSteps := 1000000) (disch := omega) only [decide_true, go_sem, wrapI, wrapB, upd_is, upd_not, Nat.reduceAdd, Nat.reduceSub, Nat.reduceMul, Nat.reduceLeDiff, Nat.reduceEqDiff, Int.reduceAdd, Int.reduceSub, Int.reduceMul, Int.reduceNeg, Int.reduceLT, Int.reduceLE, Int.reduceEq, Int.reduceToNat, reduceCtorEq, reduceIte, Nat.zero_add, Nat.add_zero, *]
      refine HK.out _ _ (by omega) hil' ⟨_, _, _, m + 1, hi, rfl, ?_, h2, ?_, ?_⟩
      · have := HM.out; omega
      · have := HM.out; omega
      · rw [H4.out, HS.out, bsL, if_pos hlt, ← HM.out, HLE.out, decide_eq_true hlt0, if_pos rfl]
    · simp (maxSteps := 1000000) (disch := omega) only [go_sem, wrapI, wrapB, upd_is, upd_not, Nat.reduceAdd, Nat.reduceSub, Nat.reduceMul, Nat.reduceLeDiff, Nat.reduceEqDiff, Int.reduceAdd, Int.reduceSub, Int.reduceMul, Int.reduceNeg, Int.reduceLT, Int.reduceLE, Int.reduceEq, Int.reduceToNat, reduceCtorEq, reduceIte, Nat.zero_add, Nat.add_zero, *]
      refine HK.out _ _ (by omega) hil' ⟨_, _, _, lo, m, rfl, ?_, ?_, ?_, ?_⟩
      · have := HM.out; omega
      · have := HM.out; omega
      · have := HM.out; omega
      · rw [H4.out, HS.out, bsL, if_pos hlt, ← HM.out, HLE.out, decide_eq_false hlt0, if_neg (by simp)]
  · have hlt' : ¬ (lo : Int) < hi := by omega
    have hend : bsL less l.length 0 l.length = lo := by
      rw [H4.out]
      cases l.length - i with
      | zero => rfl
      | succ f => rw [bsL, if_neg hlt]
    rw [hend] at HR
    clear H4 hend
    by_cases hn2 : lo < l.length
    · have hn2' : (lo : Int) < l.length := by omega
      have hx : l[lo]? = some l[lo] := List.getElem?_eq_getElem hn2
      generalize l[lo] = r at hx
      have hg : l.getD lo tb0 = r := by rw [List.getD_eq_getElem?_getD, hx]; rfl
      have HG := Lib.hid hg; clear hg
      have HN := Lib.hid (H.out r (List.mem_of_getElem? hx))
      simp (maxSteps := 1000000) (disch := omega) only [lb_slices_BinarySearchFunc_lcatalog_Table_catalog_Table_string3, decide_true, go_sem, wrapI, wrapB, upd_is, upd_not, Nat.reduceAdd, Nat.reduceSub, Nat.reduceMul, Nat.reduceLeDiff, Nat.reduceEqDiff, Int.reduceAdd, Int.reduceSub, Int.reduceMul, Int.reduceNeg, Int.reduceLT, Int.reduceLE, Int.reduceEq, Int.reduceToNat, reduceCtorEq, reduceIte, Nat.zero_add, Nat.add_zero, *]
      refine CALL_con0 HN.out (by simp only [List.cons_append, List.nil_append, brwL_cons, brwL_nil, brw_tr, brw_ag, encV_brw, HC.out, List.append_nil, Option.map_some, brw_s, encT_brw]) ?_
      simp (maxSteps := 1000000) (disch := omega) only [decide_true, go_sem, wrapI, wrapB, upd_is, upd_not, Nat.reduceAdd, Nat.reduceSub, Nat.reduceMul, Nat.reduceLeDiff, Nat.reduceEqDiff, Int.reduceAdd, Int.reduceSub, Int.reduceMul, Int.reduceNeg, Int.reduceLT, Int.reduceLE, Int.reduceEq, Int.reduceToNat, reduceCtorEq, reduceIte, Nat.zero_add, Nat.add_zero, *]
      rw [← HR.out]
      exact RC_ret rfl (by rw [HG.out, decide_eq_true hn2]; rfl)
    · have hn2' : ¬ (lo : Int) < l.length := by omega
      simp (maxSteps := 1000000) (disch := omega) only [lb_slices_BinarySearchFunc_lcatalog_Table_catalog_Table_string3, encR, go_sem, wrapI, wrapB, upd_is, upd_not, Nat.reduceAdd, Nat.reduceSub, Nat.reduceMul, Nat.reduceLeDiff, Nat.reduceEqDiff, Int.reduceAdd, Int.reduceSub, Int.reduceMul, Int.reduceNeg, Int.reduceLT, Int.reduceLE, Int.reduceEq, Int.reduceToNat, reduceCtorEq, reduceIte, Nat.zero_add, Nat.add_zero, *]
      rw [← HR.out]
      exact RC_ret rfl (by rw [decide_eq_false hn2]; rfl)
end Go.Proofs.Ytlhnncmflnjinaa
