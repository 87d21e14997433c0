/- Packed by a program of this repo: Sw. -/
import Derived.Test.YtodoejfkjimeaaaDoorKESv
set_option linter.unusedSimpArgs false
set_option linter.unusedVariables false
set_option maxRecDepth 100000
namespace Go.Proofs.YtodoejfkjimeaaaDoor
open Go Go.RowKit Am
attribute [-go_sem] guardP_if guardK_if guardD_if COND_bool
attribute [local go_sem low] guardP_if guardK_if guardD_if COND_bool
attribute [-go_sem] binS_add
def sgR : List (List AV) := [[.s [43]], [.s [45]], [.s [42]], [.s [47]], [.s [61]], [.s [60, 62]], [.s [60]], [.s [60, 61]], [.s [62]], [.s [62, 61]], [.s [65, 78, 68]], [.s [79, 82]]]
theorem sgR_0 : sgR[0]? = some [.s [43]] := rfl
theorem sgR_1 : sgR[1]? = some [.s [45]] := rfl
theorem sgR_2 : sgR[2]? = some [.s [42]] := rfl
theorem sgR_3 : sgR[3]? = some [.s [47]] := rfl
theorem sgR_4 : sgR[4]? = some [.s [61]] := rfl
theorem sgR_5 : sgR[5]? = some [.s [60, 62]] := rfl
theorem sgR_6 : sgR[6]? = some [.s [60]] := rfl
theorem sgR_7 : sgR[7]? = some [.s [60, 61]] := rfl
theorem sgR_8 : sgR[8]? = some [.s [62]] := rfl
theorem sgR_9 : sgR[9]? = some [.s [62, 61]] := rfl
theorem sgR_10 : sgR[10]? = some [.s [65, 78, 68]] := rfl
theorem sgR_11 : sgR[11]? = some [.s [79, 82]] := rfl
theorem sgR_len : sgR.length = 12 := rfl
theorem name_dot {l : List UInt8} (h : l = [] ∨ nameL l = true) : ∀ b, l.head? = some b → b ≠ 46 := by
  rintro b hb rfl
  cases l with
  | nil => cases hb
  | cons c r =>
    cases hb
    rcases h with h | h
    · cases h
    · simp [nameL, by_, noName] at h
set_option maxHeartbeats 8000000 in
theorem rfPrinted_con : ∀ (k : Nat) (e : Ep), k ≤ 12 → OKk k e → Bd e → Rg e → Con Tryd.prog 29 [.ag (encE e)] (.ret (.s (printF e)))
  | 0, e, _, h, _, _ => h.elim
  | k + 1, e, hk, hok, hb, hrg => by
    refine con_of (by_ref04_printed ?_)
    generalize hR : RC _ = R
    have HR := Lib.hid hR; clear hR
    have hpe := printF_eq e
    have hlen : ∀ a ∈ e.args, (printF a).length ≤ 17000000000 := by
      intro a ha
      obtain ⟨i, hi⟩ := List.mem_iff_getElem?.1 ha
      have := print_len k a (hok.2 a ha) (hb.arg hi)
      have h2 : 2 ^ k ≤ 2 ^ 11 := Nat.pow_le_pow_right (by omega) (by omega)
      omega
    have IH := Lib.hid (fun a (ha : a ∈ e.args) => rfPrinted_con k a (by omega) (hok.2 a ha) (by
      obtain ⟨i, hi⟩ := List.mem_iff_getElem?.1 ha
      exact hb.arg hi) (by
      obtain ⟨i, hi⟩ := List.mem_iff_getElem?.1 ha
      exact hrg.arg hi))
    have hpo := hok.1
    have hrn : rng e.n := by cases hrg with | mk e h ha => exact h
    cases hb with
    | mk op kind n text table name args hb1 hb2 hb3 hb4 hb5 =>
    simp only [Ep.op, Ep.kind, Ep.n, Ep.text, Ep.table, Ep.name, Ep.args] at hpe hlen IH hrn
    rw [show encE (.mk op kind n text table name args) = [.sc (.int .i64 op), .sc (.int .i64 kind), .sc (.int .i64 n), .s text, .s table, .s name, .tr (args.map encE)] from encE_eq _]
    have harg : argsN op = ((args.length : Int), true) := by
      have h := hpo
      simp only [partOk, Ep.op, Ep.args, Bool.and_eq_true, decide_eq_true_eq] at h
      exact Prod.ext (of_decide_eq_true h.1.2) h.1.1
    have hval : op = 0 → valOk kind n text = true := by
      intro h0
      subst h0
      simp only [partOk, Ep.op, Ep.kind, Ep.n, Ep.text, Ep.table, Ep.name, Ep.args, if_true, Bool.and_eq_true] at hpo
      exact hpo.2.1.2
    have htb : op = 1 → ∀ b, table.head? = some b → b ≠ 46 := by
      intro h0
      subst h0
      have h := hpo
      simp only [partOk, Ep.op, Ep.kind, Ep.n, Ep.text, Ep.table, Ep.name, Ep.args] at h
      rw [if_neg (by decide)] at h
      simp only [if_true, Bool.and_eq_true, Bool.or_eq_true, decide_eq_true_eq] at h
      exact name_dot (h.2.2.imp_left of_decide_eq_true)
    clear hok hrg hb5 hpo
    have HPE := Lib.hid hpe; clear hpe
    have hal := args_two harg
    have HARG := Lib.hid harg; clear harg
    have HLEN := Lib.hid hlen; clear hlen
    have HTB := Lib.hid htb; clear htb
    have HVAL := Lib.hid (fun h0 => rfLiteral_con kind n text (fun h2 => valOk_two (hval h0) hrn h2) hrn hb1); clear hval hrn
    have c1 : ((1 : Nat) : Int) = 1 := rfl
    have c2 : ((2 : Nat) : Int) = 2 := rfl
    have c4 : ((4 : Nat) : Int) = 4 := rfl
    have c12 : ((12 : Nat) : Int) = 12 := rfl
    rcases args with _ | ⟨x, _ | ⟨y, _ | ⟨z, r⟩⟩⟩
    · have ho : op = 0 ∨ op = 1 ∨ op = 18 := by
        have h := HARG.out
        unfold argsN at h
        split at h
        · assumption
        · split at h <;> simp at h
      clear HARG
      rcases ho with rfl | rfl | rfl
      · have HV := Lib.hid (HVAL.out rfl); clear HVAL
        simp (maxSteps := 1000000) (disch := omega) only [sh_ref04_printed, decide_true, decide_false, List.map_cons, List.map_nil, go_sem, wrapI, wrapB, upd_is, upd_not, Nat.reduceAdd, Nat.reduceSub, Nat.reduceMul, Nat.reduceLeDiff, Nat.reduceEqDiff, Int.reduceAdd, Int.reduceSub, Int.reduceMul, Int.reduceNeg, Int.reduceLT, Int.reduceLE, Int.reduceEq, Int.reduceToNat, reduceCtorEq, reduceIte, Nat.zero_add, Nat.add_zero, *]
        refine CALL_con0 HV.out (by simp only [List.append_nil, brwL_cons, brwL_nil, brw_ag, brw_s, brw_sc, Option.map_some]) ?_
        simp (maxSteps := 1000000) (disch := omega) only [go_sem, wrapI, wrapB, upd_is, upd_not, Nat.reduceAdd, Nat.reduceSub, Nat.reduceMul, Nat.reduceLeDiff, Nat.reduceEqDiff, Int.reduceAdd, Int.reduceSub, Int.reduceMul, Int.reduceNeg, Int.reduceLT, Int.reduceLE, Int.reduceEq, Int.reduceToNat, reduceCtorEq, reduceIte, Nat.zero_add, Nat.add_zero, *]
        rw [← HR.out]; exact RC_ret rfl (by rw [HPE.out]; rfl)
      · have ht := trim_dot (name := name) (HTB.out rfl); clear HVAL HTB
        by_cases h0 : table = []
        · rw [if_pos h0] at ht
          have HT := Lib.hid ht; clear ht
          simp (maxSteps := 1000000) (disch := omega) only [sh_ref04_printed, decide_true, decide_false, List.map_cons, List.map_nil, go_sem, wrapI, wrapB, upd_is, upd_not, Nat.reduceAdd, Nat.reduceSub, Nat.reduceMul, Nat.reduceLeDiff, Nat.reduceEqDiff, Int.reduceAdd, Int.reduceSub, Int.reduceMul, Int.reduceNeg, Int.reduceLT, Int.reduceLE, Int.reduceEq, Int.reduceToNat, reduceCtorEq, reduceIte, Nat.zero_add, Nat.add_zero, *]
          rw [← HR.out]; exact RC_ret rfl (by rw [HPE.out]; exact congrArg (fun z => AEnd.ret (AV.s z)) HT.out)
        · rw [if_neg h0] at ht
          have HT := Lib.hid ht; clear ht
          simp (maxSteps := 1000000) (disch := omega) only [sh_ref04_printed, decide_true, decide_false, List.map_cons, List.map_nil, go_sem, wrapI, wrapB, upd_is, upd_not, Nat.reduceAdd, Nat.reduceSub, Nat.reduceMul, Nat.reduceLeDiff, Nat.reduceEqDiff, Int.reduceAdd, Int.reduceSub, Int.reduceMul, Int.reduceNeg, Int.reduceLT, Int.reduceLE, Int.reduceEq, Int.reduceToNat, reduceCtorEq, reduceIte, Nat.zero_add, Nat.add_zero, *]
          rw [bindP_add (by simp only [List.length_cons, List.length_nil]; omega)]
          rw [bindP_add (by simp only [List.length_append, List.length_cons, List.length_nil]; omega)]
          rw [← HR.out]; exact RC_ret rfl (by rw [HPE.out]; exact congrArg (fun z => AEnd.ret (AV.s z)) HT.out)
      · clear HVAL
        simp (maxSteps := 1000000) (disch := omega) only [sh_ref04_printed, decide_true, decide_false, List.map_cons, List.map_nil, go_sem, wrapI, wrapB, upd_is, upd_not, Nat.reduceAdd, Nat.reduceSub, Nat.reduceMul, Nat.reduceLeDiff, Nat.reduceEqDiff, Int.reduceAdd, Int.reduceSub, Int.reduceMul, Int.reduceNeg, Int.reduceLT, Int.reduceLE, Int.reduceEq, Int.reduceToNat, reduceCtorEq, reduceIte, Nat.zero_add, Nat.add_zero, *]
        rw [← HR.out]; exact RC_ret rfl (by rw [HPE.out]; rfl)
    · have ho : op = 2 ∨ op = 3 ∨ op = 16 ∨ op = 17 ∨ op = 19 ∨ op = 20 ∨ op = 21 ∨ op = 22 := by
        have h := HARG.out
        unfold argsN at h
        split at h
        · simp at h
        · split at h
          · assumption
          · simp at h
      clear HARG HVAL HTB
      have hx := HLEN.out x (by simp)
      have HC := Lib.hid (IH.out x (by simp))
      clear HLEN IH
      have e1 : (((0 : Nat) + 1 : Nat) : Int) = 1 := rfl
      rcases ho with rfl | rfl | rfl | rfl | rfl | rfl | rfl | rfl
      · have HP := Lib.hid (HPE.out); clear HPE
        simp (maxSteps := 1000000) (disch := omega) only [sh_ref04_printed, decide_true, decide_false, List.map_cons, List.map_nil, go_sem, wrapI, wrapB, upd_is, upd_not, Nat.reduceAdd, Nat.reduceSub, Nat.reduceMul, Nat.reduceLeDiff, Nat.reduceEqDiff, Int.reduceAdd, Int.reduceSub, Int.reduceMul, Int.reduceNeg, Int.reduceLT, Int.reduceLE, Int.reduceEq, Int.reduceToNat, reduceCtorEq, reduceIte, Nat.zero_add, Nat.add_zero, *]
        refine CALL_con0 HC.out (by simp only [List.append_nil, brwL_cons, brwL_nil, brw_ag, encE_brw, Option.map_some]) ?_
        rw [kc_ref04_printed4, onEnd_ret]
        simp only [aFad_rf, Nat.add_zero, Nat.zero_add]
        rw [bindP_some]
        rw [show aLd _ none (.rf 0 7 0 0) = some (.sc (.int .i64 2)) from rfl, bindP_some]
        rw [bindP_eqI, COND_yes rfl]
        rw [bindP_add (by simp only [List.length_cons, List.length_nil]; omega)]
        rw [bindP_add (by simp only [List.length_append, List.length_cons, List.length_nil]; omega)]
        rw [← HR.out]; exact RC_ret rfl (by rw [HP.out]; rfl)
      · have HP := Lib.hid (HPE.out); clear HPE
        simp (maxSteps := 1000000) (disch := omega) only [sh_ref04_printed, decide_true, decide_false, List.map_cons, List.map_nil, go_sem, wrapI, wrapB, upd_is, upd_not, Nat.reduceAdd, Nat.reduceSub, Nat.reduceMul, Nat.reduceLeDiff, Nat.reduceEqDiff, Int.reduceAdd, Int.reduceSub, Int.reduceMul, Int.reduceNeg, Int.reduceLT, Int.reduceLE, Int.reduceEq, Int.reduceToNat, reduceCtorEq, reduceIte, Nat.zero_add, Nat.add_zero, *]
        refine CALL_con0 HC.out (by simp only [List.append_nil, brwL_cons, brwL_nil, brw_ag, encE_brw, Option.map_some]) ?_
        rw [kc_ref04_printed4, onEnd_ret]
        simp only [aFad_rf, Nat.add_zero, Nat.zero_add]
        rw [bindP_some]
        rw [show aLd _ none (.rf 0 7 0 0) = some (.sc (.int .i64 3)) from rfl, bindP_some]
        rw [bindP_eqI, COND_no (by omega)]
        rw [bindP_eqI, COND_yes rfl]
        rw [bindP_add (by simp only [List.length_cons, List.length_nil]; omega)]
        rw [bindP_add (by simp only [List.length_append, List.length_cons, List.length_nil]; omega)]
        rw [← HR.out]; exact RC_ret rfl (by rw [HP.out]; rfl)
      · have HP := Lib.hid (HPE.out); clear HPE
        simp (maxSteps := 1000000) (disch := omega) only [sh_ref04_printed, decide_true, decide_false, List.map_cons, List.map_nil, go_sem, wrapI, wrapB, upd_is, upd_not, Nat.reduceAdd, Nat.reduceSub, Nat.reduceMul, Nat.reduceLeDiff, Nat.reduceEqDiff, Int.reduceAdd, Int.reduceSub, Int.reduceMul, Int.reduceNeg, Int.reduceLT, Int.reduceLE, Int.reduceEq, Int.reduceToNat, reduceCtorEq, reduceIte, Nat.zero_add, Nat.add_zero, *]
        refine CALL_con0 HC.out (by simp only [List.append_nil, brwL_cons, brwL_nil, brw_ag, encE_brw, Option.map_some]) ?_
        rw [kc_ref04_printed4, onEnd_ret]
        simp only [aFad_rf, Nat.add_zero, Nat.zero_add]
        rw [bindP_some]
        rw [show aLd _ none (.rf 0 7 0 0) = some (.sc (.int .i64 16)) from rfl, bindP_some]
        rw [bindP_eqI, COND_no (by omega)]
        rw [bindP_eqI, COND_no (by omega)]
        rw [bindP_eqI, COND_yes rfl]
        rw [bindP_add (by simp only [List.length_cons, List.length_nil]; omega)]
        rw [bindP_add (by simp only [List.length_append, List.length_cons, List.length_nil]; omega)]
        rw [← HR.out]; exact RC_ret rfl (by rw [HP.out]; rfl)
      · have HP := Lib.hid (HPE.out); clear HPE
        simp (maxSteps := 1000000) (disch := omega) only [sh_ref04_printed, decide_true, decide_false, List.map_cons, List.map_nil, go_sem, wrapI, wrapB, upd_is, upd_not, Nat.reduceAdd, Nat.reduceSub, Nat.reduceMul, Nat.reduceLeDiff, Nat.reduceEqDiff, Int.reduceAdd, Int.reduceSub, Int.reduceMul, Int.reduceNeg, Int.reduceLT, Int.reduceLE, Int.reduceEq, Int.reduceToNat, reduceCtorEq, reduceIte, Nat.zero_add, Nat.add_zero, *]
        refine CALL_con0 HC.out (by simp only [List.append_nil, brwL_cons, brwL_nil, brw_ag, encE_brw, Option.map_some]) ?_
        rw [kc_ref04_printed4, onEnd_ret]
        simp only [aFad_rf, Nat.add_zero, Nat.zero_add]
        rw [bindP_some]
        rw [show aLd _ none (.rf 0 7 0 0) = some (.sc (.int .i64 17)) from rfl, bindP_some]
        rw [bindP_eqI, COND_no (by omega)]
        rw [bindP_eqI, COND_no (by omega)]
        rw [bindP_eqI, COND_no (by omega)]
        rw [bindP_eqI, COND_yes rfl]
        rw [bindP_add (by simp only [List.length_cons, List.length_nil]; omega)]
        rw [bindP_add (by simp only [List.length_append, List.length_cons, List.length_nil]; omega)]
        rw [← HR.out]; exact RC_ret rfl (by rw [HP.out]; rfl)
      · have HP := Lib.hid (HPE.out); clear HPE
        simp (maxSteps := 1000000) (disch := omega) only [sh_ref04_printed, decide_true, decide_false, List.map_cons, List.map_nil, go_sem, wrapI, wrapB, upd_is, upd_not, Nat.reduceAdd, Nat.reduceSub, Nat.reduceMul, Nat.reduceLeDiff, Nat.reduceEqDiff, Int.reduceAdd, Int.reduceSub, Int.reduceMul, Int.reduceNeg, Int.reduceLT, Int.reduceLE, Int.reduceEq, Int.reduceToNat, reduceCtorEq, reduceIte, Nat.zero_add, Nat.add_zero, *]
        refine CALL_con0 HC.out (by simp only [List.append_nil, brwL_cons, brwL_nil, brw_ag, encE_brw, Option.map_some]) ?_
        rw [kc_ref04_printed4, onEnd_ret]
        simp only [aFad_rf, Nat.add_zero, Nat.zero_add]
        rw [bindP_some]
        rw [show aLd _ none (.rf 0 7 0 0) = some (.sc (.int .i64 19)) from rfl, bindP_some]
        rw [bindP_eqI, COND_no (by omega)]
        rw [bindP_eqI, COND_no (by omega)]
        rw [bindP_eqI, COND_no (by omega)]
        rw [bindP_eqI, COND_no (by omega)]
        rw [JOIN_eq]
        rw [bindP_eqI, COND_yes rfl]
        rw [jk_ref04_printed3]
        simp only [List.getD_cons_zero, List.getD_cons_succ]
        rw [COND_yes (by trivial)]
        repeat (first | rw [bindP_add (by simp only [List.length_append, List.length_cons, List.length_nil]; omega)] | simp (maxSteps := 1000000) (disch := omega) only [c4, go_sem, wrapI, wrapB, upd_is, upd_not, Nat.reduceAdd, Nat.reduceSub, Nat.reduceMul, Nat.reduceLeDiff, Nat.reduceEqDiff, Int.reduceAdd, Int.reduceSub, Int.reduceMul, Int.reduceNeg, Int.reduceLT, Int.reduceLE, Int.reduceEq, Int.reduceToNat, reduceCtorEq, reduceIte, Nat.zero_add, Nat.add_zero, *])
        rw [← HR.out]; exact RC_ret rfl (by rw [HP.out]; rfl)
      · have HP := Lib.hid (HPE.out); clear HPE
        simp (maxSteps := 1000000) (disch := omega) only [sh_ref04_printed, decide_true, decide_false, List.map_cons, List.map_nil, go_sem, wrapI, wrapB, upd_is, upd_not, Nat.reduceAdd, Nat.reduceSub, Nat.reduceMul, Nat.reduceLeDiff, Nat.reduceEqDiff, Int.reduceAdd, Int.reduceSub, Int.reduceMul, Int.reduceNeg, Int.reduceLT, Int.reduceLE, Int.reduceEq, Int.reduceToNat, reduceCtorEq, reduceIte, Nat.zero_add, Nat.add_zero, *]
        refine CALL_con0 HC.out (by simp only [List.append_nil, brwL_cons, brwL_nil, brw_ag, encE_brw, Option.map_some]) ?_
        rw [kc_ref04_printed4, onEnd_ret]
        simp only [aFad_rf, Nat.add_zero, Nat.zero_add]
        rw [bindP_some]
        rw [show aLd _ none (.rf 0 7 0 0) = some (.sc (.int .i64 20)) from rfl, bindP_some]
        rw [bindP_eqI, COND_no (by omega)]
        rw [bindP_eqI, COND_no (by omega)]
        rw [bindP_eqI, COND_no (by omega)]
        rw [bindP_eqI, COND_no (by omega)]
        rw [JOIN_eq]
        rw [bindP_eqI, COND_no (by omega)]
        rw [bindP_eqI, COND_yes rfl]
        rw [jk_ref04_printed3]
        simp only [List.getD_cons_zero, List.getD_cons_succ]
        rw [COND_yes (by trivial)]
        repeat (first | rw [bindP_add (by simp only [List.length_append, List.length_cons, List.length_nil]; omega)] | simp (maxSteps := 1000000) (disch := omega) only [c4, go_sem, wrapI, wrapB, upd_is, upd_not, Nat.reduceAdd, Nat.reduceSub, Nat.reduceMul, Nat.reduceLeDiff, Nat.reduceEqDiff, Int.reduceAdd, Int.reduceSub, Int.reduceMul, Int.reduceNeg, Int.reduceLT, Int.reduceLE, Int.reduceEq, Int.reduceToNat, reduceCtorEq, reduceIte, Nat.zero_add, Nat.add_zero, *])
        rw [← HR.out]; exact RC_ret rfl (by rw [HP.out]; rfl)
      · have HP := Lib.hid (HPE.out); clear HPE
        simp (maxSteps := 1000000) (disch := omega) only [sh_ref04_printed, decide_true, decide_false, List.map_cons, List.map_nil, go_sem, wrapI, wrapB, upd_is, upd_not, Nat.reduceAdd, Nat.reduceSub, Nat.reduceMul, Nat.reduceLeDiff, Nat.reduceEqDiff, Int.reduceAdd, Int.reduceSub, Int.reduceMul, Int.reduceNeg, Int.reduceLT, Int.reduceLE, Int.reduceEq, Int.reduceToNat, reduceCtorEq, reduceIte, Nat.zero_add, Nat.add_zero, *]
        refine CALL_con0 HC.out (by simp only [List.append_nil, brwL_cons, brwL_nil, brw_ag, encE_brw, Option.map_some]) ?_
        rw [kc_ref04_printed4, onEnd_ret]
        simp only [aFad_rf, Nat.add_zero, Nat.zero_add]
        rw [bindP_some]
        rw [show aLd _ none (.rf 0 7 0 0) = some (.sc (.int .i64 21)) from rfl, bindP_some]
        rw [bindP_eqI, COND_no (by omega)]
        rw [bindP_eqI, COND_no (by omega)]
        rw [bindP_eqI, COND_no (by omega)]
        rw [bindP_eqI, COND_no (by omega)]
        rw [JOIN_eq]
        rw [bindP_eqI, COND_no (by omega)]
        rw [bindP_eqI, COND_no (by omega)]
        rw [bindP_eqI, COND_yes rfl]
        rw [jk_ref04_printed3]
        simp only [List.getD_cons_zero, List.getD_cons_succ]
        rw [COND_yes (by trivial)]
        repeat (first | rw [bindP_add (by simp only [List.length_append, List.length_cons, List.length_nil]; omega)] | simp (maxSteps := 1000000) (disch := omega) only [c4, go_sem, wrapI, wrapB, upd_is, upd_not, Nat.reduceAdd, Nat.reduceSub, Nat.reduceMul, Nat.reduceLeDiff, Nat.reduceEqDiff, Int.reduceAdd, Int.reduceSub, Int.reduceMul, Int.reduceNeg, Int.reduceLT, Int.reduceLE, Int.reduceEq, Int.reduceToNat, reduceCtorEq, reduceIte, Nat.zero_add, Nat.add_zero, *])
        rw [← HR.out]; exact RC_ret rfl (by rw [HP.out]; rfl)
      · have HP := Lib.hid (HPE.out); clear HPE
        simp (maxSteps := 1000000) (disch := omega) only [sh_ref04_printed, decide_true, decide_false, List.map_cons, List.map_nil, go_sem, wrapI, wrapB, upd_is, upd_not, Nat.reduceAdd, Nat.reduceSub, Nat.reduceMul, Nat.reduceLeDiff, Nat.reduceEqDiff, Int.reduceAdd, Int.reduceSub, Int.reduceMul, Int.reduceNeg, Int.reduceLT, Int.reduceLE, Int.reduceEq, Int.reduceToNat, reduceCtorEq, reduceIte, Nat.zero_add, Nat.add_zero, *]
        refine CALL_con0 HC.out (by simp only [List.append_nil, brwL_cons, brwL_nil, brw_ag, encE_brw, Option.map_some]) ?_
        rw [kc_ref04_printed4, onEnd_ret]
        simp only [aFad_rf, Nat.add_zero, Nat.zero_add]
        rw [bindP_some]
        rw [show aLd _ none (.rf 0 7 0 0) = some (.sc (.int .i64 22)) from rfl, bindP_some]
        rw [bindP_eqI, COND_no (by omega)]
        rw [bindP_eqI, COND_no (by omega)]
        rw [bindP_eqI, COND_no (by omega)]
        rw [bindP_eqI, COND_no (by omega)]
        rw [JOIN_eq]
        rw [bindP_eqI, COND_no (by omega)]
        rw [bindP_eqI, COND_no (by omega)]
        rw [bindP_eqI, COND_no (by omega)]
        rw [bindP_eqI]
        rw [jk_ref04_printed3]
        simp only [List.getD_cons_zero, List.getD_cons_succ]
        rw [COND_yes (by trivial)]
        repeat (first | rw [bindP_add (by simp only [List.length_append, List.length_cons, List.length_nil]; omega)] | simp (maxSteps := 1000000) (disch := omega) only [c4, go_sem, wrapI, wrapB, upd_is, upd_not, Nat.reduceAdd, Nat.reduceSub, Nat.reduceMul, Nat.reduceLeDiff, Nat.reduceEqDiff, Int.reduceAdd, Int.reduceSub, Int.reduceMul, Int.reduceNeg, Int.reduceLT, Int.reduceLE, Int.reduceEq, Int.reduceToNat, reduceCtorEq, reduceIte, Nat.zero_add, Nat.add_zero, *])
        rw [← HR.out]; exact RC_ret rfl (by rw [HP.out]; rfl)
    · have ho : 4 ≤ op ∧ op < 16 := by
        have h := HARG.out
        unfold argsN at h
        split at h
        · simp at h
        · split at h
          · simp at h
          · simp only [Prod.mk.injEq, Bool.and_eq_true, decide_eq_true_eq] at h
            exact h.2
      clear HARG HVAL HTB
      have hx := HLEN.out x (by simp)
      have hy := HLEN.out y (by simp)
      have HCx := Lib.hid (IH.out x (by simp))
      have HCy := Lib.hid (IH.out y (by simp))
      clear HLEN IH
      have g0 : ¬ op = 0 := by omega
      have g1 : ¬ op = 1 := by omega
      have g18 : ¬ op = 18 := by omega
      simp (maxSteps := 1000000) (disch := omega) only [sh_ref04_printed, decide_true, decide_false, List.map_cons, List.map_nil, go_sem, wrapI, wrapB, upd_is, upd_not, Nat.reduceAdd, Nat.reduceSub, Nat.reduceMul, Nat.reduceLeDiff, Nat.reduceEqDiff, Int.reduceAdd, Int.reduceSub, Int.reduceMul, Int.reduceNeg, Int.reduceLT, Int.reduceLE, Int.reduceEq, Int.reduceToNat, reduceCtorEq, reduceIte, Nat.zero_add, Nat.add_zero, *]
      refine CALL_con0 HCx.out (by simp only [List.append_nil, brwL_cons, brwL_nil, brw_ag, encE_brw, Option.map_some]) ?_
      rw [kc_ref04_printed4, onEnd_ret]
      simp only [aFad_rf, Nat.add_zero, Nat.zero_add]
      rw [bindP_some]
      rw [show aLd _ none (.rf 0 7 0 0) = some (.sc (.int .i64 op)) from rfl, bindP_some]
      rw [bindP_eqI, COND_no (by omega)]
      rw [bindP_eqI, COND_no (by omega)]
      rw [bindP_eqI, COND_no (by omega)]
      rw [bindP_eqI, COND_no (by omega)]
      rw [JOIN_eq]
      rw [bindP_eqI, COND_no (by omega)]
      rw [bindP_eqI, COND_no (by omega)]
      rw [bindP_eqI, COND_no (by omega)]
      rw [bindP_eqI, jk_ref04_printed3]
      simp only [List.getD_cons_zero, List.getD_cons_succ]
      rw [COND_no (by omega)]
      change bindS (some (.ow _ 1 0 12, [(_, some (Ob.c ⟨1, sgR, true, true⟩))])) _ _ _
      rw [bindS_some]
      generalize hτ : applyW _ _ = τ
      have h0 : τ 0 = some (.c ⟨7, [[.sc (.int .i64 op), .sc (.int .i64 kind), .sc (.int .i64 n), .s text, .s table, .s name, .tr [encE x, encE y]]], true, false⟩) := by rw [← hτ]; rfl
      have h16 : τ 16 = some (.c ⟨1, sgR, true, true⟩) := by rw [← hτ]; rfl
      clear hτ
      rcases (show op = 4 ∨ op = 5 ∨ op = 6 ∨ op = 7 ∨ op = 8 ∨ op = 9 ∨ op = 10 ∨ op = 11 ∨ op = 12 ∨ op = 13 ∨ op = 14 ∨ op = 15 by omega) with rfl | rfl | rfl | rfl | rfl | rfl | rfl | rfl | rfl | rfl | rfl | rfl
      all_goals
        clear ho g0 g1 g18
        repeat (first | rw [bindP_add (by simp only [List.length_append, List.length_cons, List.length_nil]; omega)] | simp (maxSteps := 1000000) (disch := omega) only [c12, c2, c1, sgR_len, sgR_0, sgR_1, sgR_2, sgR_3, sgR_4, sgR_5, sgR_6, sgR_7, sgR_8, sgR_9, sgR_10, sgR_11, go_sem, wrapI, wrapB, upd_is, upd_not, Nat.reduceAdd, Nat.reduceSub, Nat.reduceMul, Nat.reduceLeDiff, Nat.reduceEqDiff, Int.reduceAdd, Int.reduceSub, Int.reduceMul, Int.reduceNeg, Int.reduceLT, Int.reduceLE, Int.reduceEq, Int.reduceToNat, reduceCtorEq, reduceIte, Nat.zero_add, Nat.add_zero, *])
        refine CALL_con0 HCy.out (by simp only [List.append_nil, brwL_cons, brwL_nil, brw_ag, encE_brw, Option.map_some]) ?_
        rw [kc_ref04_printed2, onEnd_ret]
        rw [bindP_add (by simp only [List.length_append, List.length_cons, List.length_nil]; omega)]
        rw [bindP_add (by simp only [List.length_append, List.length_cons, List.length_nil]; omega)]
        rw [← HR.out]; exact RC_ret rfl (by rw [HPE.out]; exact congrArg (fun z => AEnd.ret (AV.s z)) (by simp [putF, signF]))
    · simp only [List.length_cons] at hal; omega
end Go.Proofs.YtodoejfkjimeaaaDoor
