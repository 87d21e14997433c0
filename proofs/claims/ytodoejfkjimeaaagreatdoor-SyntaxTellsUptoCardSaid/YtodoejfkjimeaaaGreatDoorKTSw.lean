/- Packed by a program of this repo: Sw Ub Uc. -/
import Derived.Test.YtodoejfkjimeaaaGreatDoorKTUa
set_option linter.unusedSimpArgs false
set_option linter.unusedVariables false
set_option maxRecDepth 100000
namespace Go.Proofs.YtodoejfkjimeaaaGreatDoor
open Go Go.RowKit Am
attribute [-go_sem] guardP_if guardK_if guardD_if COND_bool
attribute [local go_sem low] guardP_if guardK_if guardD_if COND_bool
attribute [local go_sem] wrapI wrapB upd_is upd_not Nat.zero_add Nat.add_zero
attribute [local go_sem_proc] Nat.reduceAdd Nat.reduceSub Nat.reduceMul Nat.reduceLeDiff Nat.reduceEqDiff Int.reduceAdd Int.reduceSub Int.reduceMul Int.reduceNeg Int.reduceLT Int.reduceLE Int.reduceEq Int.reduceToNat reduceCtorEq reduceIte
attribute [-go_sem] binS_add
def sgR : List (List AV) := [[.s [43]], [.s [45]], [.s [42]], [.s [47]], [.s [61]], [.s [60, 62]], [.s [60]], [.s [60, 61]], [.s [62]], [.s [62, 61]], [.s [65, 78, 68]], [.s [79, 82]]]
theorem sgR_0 : sgR[0]? = some [.s [43]] := rfl
theorem sgR_1 : sgR[1]? = some [.s [45]] := rfl
theorem sgR_2 : sgR[2]? = some [.s [42]] := rfl
theorem sgR_3 : sgR[3]? = some [.s [47]] := rfl
theorem sgR_4 : sgR[4]? = some [.s [61]] := rfl
theorem sgR_5 : sgR[5]? = some [.s [60, 62]] := rfl
theorem sgR_6 : sgR[6]? = some [.s [60]] := rfl
theorem sgR_7 : sgR[7]? = some [.s [60, 61]] := rfl
theorem sgR_8 : sgR[8]? = some [.s [62]] := rfl
theorem sgR_9 : sgR[9]? = some [.s [62, 61]] := rfl
theorem sgR_10 : sgR[10]? = some [.s [65, 78, 68]] := rfl
theorem sgR_11 : sgR[11]? = some [.s [79, 82]] := rfl
theorem sgR_len : sgR.length = 12 := rfl
theorem name_dot {l : List UInt8} (h : l = [] ∨ nameL l = true) : ∀ b, l.head? = some b → b ≠ 46 := by
  rintro b hb rfl
  cases l with
  | nil => cases hb
  | cons c r =>
    cases hb
    rcases h with h | h
    · cases h
    · simp [nameL, by_, noName] at h
set_option maxHeartbeats 8000000 in
theorem rfPrinted_con : ∀ (k : Nat) (e : Ep), k ≤ 12 → OKk k e → Bd e → Rg e → Con Tryz.prog 20 [.ag (encE e)] (.ret (.s (printF e)))
  | 0, e, _, h, _, _ => h.elim
  | k + 1, e, hk, hok, hb, hrg => by
    refine con_of (by_ref04_printed ?_)
    generalize hR : RC _ = R
    have HR := Lib.hid hR; clear hR
    have hpe := printF_eq e
    have hlen : ∀ a ∈ e.args, (printF a).length ≤ 17000000000 := by
      intro a ha
      obtain ⟨i, hi⟩ := List.mem_iff_getElem?.1 ha
      have := print_len k a (hok.2 a ha) (hb.arg hi)
      have h2 : 2 ^ k ≤ 2 ^ 11 := Nat.pow_le_pow_right (by omega) (by omega)
      omega
    have IH := Lib.hid (fun a (ha : a ∈ e.args) => rfPrinted_con k a (by omega) (hok.2 a ha) (by
      obtain ⟨i, hi⟩ := List.mem_iff_getElem?.1 ha
      exact hb.arg hi) (by
      obtain ⟨i, hi⟩ := List.mem_iff_getElem?.1 ha
      exact hrg.arg hi))
    have hpo := hok.1
    have hrn : rng e.n := by cases hrg with | mk e h ha => exact h
    cases hb with
    | mk op kind n text table name args hb1 hb2 hb3 hb4 hb5 =>
    simp only [Ep.op, Ep.kind, Ep.n, Ep.text, Ep.table, Ep.name, Ep.args] at hpe hlen IH hrn
    rw [show encE (.mk op kind n text table name args) = [.sc (.int .i64 op), .sc (.int .i64 kind), .sc (.int .i64 n), .s text, .s table, .s name, .tr (args.map encE)] from encE_eq _]
    have harg : argsN op = ((args.length : Int), true) := by
      have h := hpo
      simp only [partOk, Ep.op, Ep.args, Bool.and_eq_true, decide_eq_true_eq] at h
      exact Prod.ext (of_decide_eq_true h.1.2) h.1.1
    have hval : op = 0 → valOk kind n text = true := by
      intro h0
      subst h0
      simp only [partOk, Ep.op, Ep.kind, Ep.n, Ep.text, Ep.table, Ep.name, Ep.args, if_true, Bool.and_eq_true] at hpo
      exact hpo.2.1.2
    have htb : op = 1 → ∀ b, table.head? = some b → b ≠ 46 := by
      intro h0
      subst h0
      have h := hpo
      simp only [partOk, Ep.op, Ep.kind, Ep.n, Ep.text, Ep.table, Ep.name, Ep.args] at h
      rw [if_neg (by decide)] at h
      simp only [if_true, Bool.and_eq_true, Bool.or_eq_true, decide_eq_true_eq] at h
      exact name_dot (h.2.2.imp_left of_decide_eq_true)
    clear hok hrg hb5 hpo
    have HPE := Lib.hid hpe; clear hpe
    have hal := args_two harg
    have HARG := Lib.hid harg; clear harg
    have HLEN := Lib.hid hlen; clear hlen
    have HTB := Lib.hid htb; clear htb
    have HVAL := Lib.hid (fun h0 => rfLiteral_con kind n text (fun h2 => valOk_two (hval h0) hrn h2) hrn hb1); clear hval hrn
    have c1 : ((1 : Nat) : Int) = 1 := rfl
    have c2 : ((2 : Nat) : Int) = 2 := rfl
    have c4 : ((4 : Nat) : Int) = 4 := rfl
    have c12 : ((12 : Nat) : Int) = 12 := rfl
    rcases args with _ | ⟨x, _ | ⟨y, _ | ⟨z, r⟩⟩⟩
    · have ho : op = 0 ∨ op = 1 ∨ op = 18 := by
        have h := HARG.out
        unfold argsN at h
        split at h
        · assumption
        · split at h <;> simp at h
      clear HARG
      rcases ho with rfl | rfl | rfl
      · have HV := Lib.hid (HVAL.out rfl); clear HVAL
        simp (maxSteps:=1000000) (disch:=omega) only [sh_ref04_printed,decide_true,decide_false,List.map_cons,List.map_nil,go_sem, *]
        refine CALL_con0 HV.out (by simp only [List.append_nil, brwL_cons, brwL_nil, brw_ag, brw_s, brw_sc, Option.map_some]) ?_
        simp (maxSteps:=1000000) (disch:=omega) only [go_sem, *]
        rw [← HR.out]; exact RC_ret rfl (by rw [HPE.out]; rfl)
      · have ht := trim_dot (name := name) (HTB.out rfl); clear HVAL HTB
        by_cases h0 : table = []
        · rw [if_pos h0] at ht
          have HT := Lib.hid ht; clear ht
          simp (maxSteps:=1000000) (disch:=omega) only [sh_ref04_printed,decide_true,decide_false,List.map_cons,List.map_nil,go_sem, *]
          rw [← HR.out]; exact RC_ret rfl (by rw [HPE.out]; exact congrArg (fun z => AEnd.ret (AV.s z)) HT.out)
        · rw [if_neg h0] at ht
          have HT := Lib.hid ht; clear ht
          simp (maxSteps:=1000000) (disch:=omega) only [sh_ref04_printed,decide_true,decide_false,List.map_cons,List.map_nil,go_sem, *]
          rw [bindP_add (by simp only [List.length_cons, List.length_nil]; omega)]
          rw [bindP_add (by simp only [List.length_append, List.length_cons, List.length_nil]; omega)]
          rw [← HR.out]; exact RC_ret rfl (by rw [HPE.out]; exact congrArg (fun z => AEnd.ret (AV.s z)) HT.out)
      · clear HVAL
        simp (maxSteps:=1000000) (disch:=omega) only [sh_ref04_printed,decide_true,decide_false,List.map_cons,List.map_nil,go_sem, *]
        rw [← HR.out]; exact RC_ret rfl (by rw [HPE.out]; rfl)
    · have ho : op = 2 ∨ op = 3 ∨ op = 16 ∨ op = 17 ∨ op = 19 ∨ op = 20 ∨ op = 21 ∨ op = 22 := by
        have h := HARG.out
        unfold argsN at h
        split at h
        · simp at h
        · split at h
          · assumption
          · simp at h
      clear HARG HVAL HTB
      have hx := HLEN.out x (by simp)
      have HC := Lib.hid (IH.out x (by simp))
      clear HLEN IH
      have e1 : (((0 : Nat) + 1 : Nat) : Int) = 1 := rfl
      rcases ho with rfl | rfl | rfl | rfl | rfl | rfl | rfl | rfl
      · have HP := Lib.hid (HPE.out); clear HPE
        simp (maxSteps:=1000000) (disch:=omega) only [sh_ref04_printed,decide_true,decide_false,List.map_cons,List.map_nil,go_sem, *]
        refine CALL_con0 HC.out (by simp only [List.append_nil, brwL_cons, brwL_nil, brw_ag, encE_brw, Option.map_some]) ?_
        rw [kc_ref04_printed4, onEnd_ret]
        simp only [aFad_rf, Nat.add_zero, Nat.zero_add]
        rw [bindP_some]
        rw [show aLd _ none (.rf 0 7 0 0) = some (.sc (.int .i64 2)) from rfl, bindP_some]
        rw [bindP_eqI, COND_yes rfl]
        rw [bindP_add (by simp only [List.length_cons, List.length_nil]; omega)]
        rw [bindP_add (by simp only [List.length_append, List.length_cons, List.length_nil]; omega)]
        rw [← HR.out]; exact RC_ret rfl (by rw [HP.out]; rfl)
      · have HP := Lib.hid (HPE.out); clear HPE
        simp (maxSteps:=1000000) (disch:=omega) only [sh_ref04_printed,decide_true,decide_false,List.map_cons,List.map_nil,go_sem, *]
        refine CALL_con0 HC.out (by simp only [List.append_nil, brwL_cons, brwL_nil, brw_ag, encE_brw, Option.map_some]) ?_
        rw [kc_ref04_printed4, onEnd_ret]
        simp only [aFad_rf, Nat.add_zero, Nat.zero_add]
        rw [bindP_some]
        rw [show aLd _ none (.rf 0 7 0 0) = some (.sc (.int .i64 3)) from rfl, bindP_some]
        rw [bindP_eqI, COND_no (by omega)]
        rw [bindP_eqI, COND_yes rfl]
        rw [bindP_add (by simp only [List.length_cons, List.length_nil]; omega)]
        rw [bindP_add (by simp only [List.length_append, List.length_cons, List.length_nil]; omega)]
        rw [← HR.out]; exact RC_ret rfl (by rw [HP.out]; rfl)
      · have HP := Lib.hid (HPE.out); clear HPE
        simp (maxSteps:=1000000) (disch:=omega) only [sh_ref04_printed,decide_true,decide_false,List.map_cons,List.map_nil,go_sem, *]
        refine CALL_con0 HC.out (by simp only [List.append_nil, brwL_cons, brwL_nil, brw_ag, encE_brw, Option.map_some]) ?_
        rw [kc_ref04_printed4, onEnd_ret]
        simp only [aFad_rf, Nat.add_zero, Nat.zero_add]
        rw [bindP_some]
        rw [show aLd _ none (.rf 0 7 0 0) = some (.sc (.int .i64 16)) from rfl, bindP_some]
        rw [bindP_eqI, COND_no (by omega)]
        rw [bindP_eqI, COND_no (by omega)]
        rw [bindP_eqI, COND_yes rfl]
        rw [bindP_add (by simp only [List.length_cons, List.length_nil]; omega)]
        rw [bindP_add (by simp only [List.length_append, List.length_cons, List.length_nil]; omega)]
        rw [← HR.out]; exact RC_ret rfl (by rw [HP.out]; rfl)
      · have HP := Lib.hid (HPE.out); clear HPE
        simp (maxSteps:=1000000) (disch:=omega) only [sh_ref04_printed,decide_true,decide_false,List.map_cons,List.map_nil,go_sem, *]
        refine CALL_con0 HC.out (by simp only [List.append_nil, brwL_cons, brwL_nil, brw_ag, encE_brw, Option.map_some]) ?_
        rw [kc_ref04_printed4, onEnd_ret]
        simp only [aFad_rf, Nat.add_zero, Nat.zero_add]
        rw [bindP_some]
        rw [show aLd _ none (.rf 0 7 0 0) = some (.sc (.int .i64 17)) from rfl, bindP_some]
        rw [bindP_eqI, COND_no (by omega)]
        rw [bindP_eqI, COND_no (by omega)]
        rw [bindP_eqI, COND_no (by omega)]
        rw [bindP_eqI, COND_yes rfl]
        rw [bindP_add (by simp only [List.length_cons, List.length_nil]; omega)]
        rw [bindP_add (by simp only [List.length_append, List.length_cons, List.length_nil]; omega)]
        rw [← HR.out]; exact RC_ret rfl (by rw [HP.out]; rfl)
      · have HP := Lib.hid (HPE.out); clear HPE
        simp (maxSteps:=1000000) (disch:=omega) only [sh_ref04_printed,decide_true,decide_false,List.map_cons,List.map_nil,go_sem, *]
        refine CALL_con0 HC.out (by simp only [List.append_nil, brwL_cons, brwL_nil, brw_ag, encE_brw, Option.map_some]) ?_
        rw [kc_ref04_printed4, onEnd_ret]
        simp only [aFad_rf, Nat.add_zero, Nat.zero_add]
        rw [bindP_some]
        rw [show aLd _ none (.rf 0 7 0 0) = some (.sc (.int .i64 19)) from rfl, bindP_some]
        rw [bindP_eqI, COND_no (by omega)]
        rw [bindP_eqI, COND_no (by omega)]
        rw [bindP_eqI, COND_no (by omega)]
        rw [bindP_eqI, COND_no (by omega)]
        rw [JOIN_eq]
        rw [bindP_eqI, COND_yes rfl]
        rw [jk_ref04_printed3]
        simp only [List.getD_cons_zero, List.getD_cons_succ]
        rw [COND_yes (by trivial)]
        repeat (first | rw [bindP_add (by simp only [List.length_append, List.length_cons, List.length_nil]; omega)] | simp (maxSteps:=1000000) (disch:=omega) only [c4,go_sem, *])
        rw [← HR.out]; exact RC_ret rfl (by rw [HP.out]; rfl)
      · have HP := Lib.hid (HPE.out); clear HPE
        simp (maxSteps:=1000000) (disch:=omega) only [sh_ref04_printed,decide_true,decide_false,List.map_cons,List.map_nil,go_sem, *]
        refine CALL_con0 HC.out (by simp only [List.append_nil, brwL_cons, brwL_nil, brw_ag, encE_brw, Option.map_some]) ?_
        rw [kc_ref04_printed4, onEnd_ret]
        simp only [aFad_rf, Nat.add_zero, Nat.zero_add]
        rw [bindP_some]
        rw [show aLd _ none (.rf 0 7 0 0) = some (.sc (.int .i64 20)) from rfl, bindP_some]
        rw [bindP_eqI, COND_no (by omega)]
        rw [bindP_eqI, COND_no (by omega)]
        rw [bindP_eqI, COND_no (by omega)]
        rw [bindP_eqI, COND_no (by omega)]
        rw [JOIN_eq]
        rw [bindP_eqI, COND_no (by omega)]
        rw [bindP_eqI, COND_yes rfl]
        rw [jk_ref04_printed3]
        simp only [List.getD_cons_zero, List.getD_cons_succ]
        rw [COND_yes (by trivial)]
        repeat (first | rw [bindP_add (by simp only [List.length_append, List.length_cons, List.length_nil]; omega)] | simp (maxSteps:=1000000) (disch:=omega) only [c4,go_sem, *])
        rw [← HR.out]; exact RC_ret rfl (by rw [HP.out]; rfl)
      · have HP := Lib.hid (HPE.out); clear HPE
        simp (maxSteps:=1000000) (disch:=omega) only [sh_ref04_printed,decide_true,decide_false,List.map_cons,List.map_nil,go_sem, *]
        refine CALL_con0 HC.out (by simp only [List.append_nil, brwL_cons, brwL_nil, brw_ag, encE_brw, Option.map_some]) ?_
        rw [kc_ref04_printed4, onEnd_ret]
        simp only [aFad_rf, Nat.add_zero, Nat.zero_add]
        rw [bindP_some]
        rw [show aLd _ none (.rf 0 7 0 0) = some (.sc (.int .i64 21)) from rfl, bindP_some]
        rw [bindP_eqI, COND_no (by omega)]
        rw [bindP_eqI, COND_no (by omega)]
        rw [bindP_eqI, COND_no (by omega)]
        rw [bindP_eqI, COND_no (by omega)]
        rw [JOIN_eq]
        rw [bindP_eqI, COND_no (by omega)]
        rw [bindP_eqI, COND_no (by omega)]
        rw [bindP_eqI, COND_yes rfl]
        rw [jk_ref04_printed3]
        simp only [List.getD_cons_zero, List.getD_cons_succ]
        rw [COND_yes (by trivial)]
        repeat (first | rw [bindP_add (by simp only [List.length_append, List.length_cons, List.length_nil]; omega)] | simp (maxSteps:=1000000) (disch:=omega) only [c4,go_sem, *])
        rw [← HR.out]; exact RC_ret rfl (by rw [HP.out]; rfl)
      · have HP := Lib.hid (HPE.out); clear HPE
        simp (maxSteps:=1000000) (disch:=omega) only [sh_ref04_printed,decide_true,decide_false,List.map_cons,List.map_nil,go_sem, *]
        refine CALL_con0 HC.out (by simp only [List.append_nil, brwL_cons, brwL_nil, brw_ag, encE_brw, Option.map_some]) ?_
        rw [kc_ref04_printed4, onEnd_ret]
        simp only [aFad_rf, Nat.add_zero, Nat.zero_add]
        rw [bindP_some]
        rw [show aLd _ none (.rf 0 7 0 0) = some (.sc (.int .i64 22)) from rfl, bindP_some]
        rw [bindP_eqI, COND_no (by omega)]
        rw [bindP_eqI, COND_no (by omega)]
        rw [bindP_eqI, COND_no (by omega)]
        rw [bindP_eqI, COND_no (by omega)]
        rw [JOIN_eq]
        rw [bindP_eqI, COND_no (by omega)]
        rw [bindP_eqI, COND_no (by omega)]
        rw [bindP_eqI, COND_no (by omega)]
        rw [bindP_eqI]
        rw [jk_ref04_printed3]
        simp only [List.getD_cons_zero, List.getD_cons_succ]
        rw [COND_yes (by trivial)]
        repeat (first | rw [bindP_add (by simp only [List.length_append, List.length_cons, List.length_nil]; omega)] | simp (maxSteps:=1000000) (disch:=omega) only [c4,go_sem, *])
        rw [← HR.out]; exact RC_ret rfl (by rw [HP.out]; rfl)
    · have ho : 4 ≤ op ∧ op < 16 := by
        have h := HARG.out
        unfold argsN at h
        split at h
        · simp at h
        · split at h
          · simp at h
          · simp only [Prod.mk.injEq, Bool.and_eq_true, decide_eq_true_eq] at h
            exact h.2
      clear HARG HVAL HTB
      have hx := HLEN.out x (by simp)
      have hy := HLEN.out y (by simp)
      have HCx := Lib.hid (IH.out x (by simp))
      have HCy := Lib.hid (IH.out y (by simp))
      clear HLEN IH
      have g0 : ¬ op = 0 := by omega
      have g1 : ¬ op = 1 := by omega
      have g18 : ¬ op = 18 := by omega
      simp (maxSteps:=1000000) (disch:=omega) only [sh_ref04_printed,decide_true,decide_false,List.map_cons,List.map_nil,go_sem, *]
      refine CALL_con0 HCx.out (by simp only [List.append_nil, brwL_cons, brwL_nil, brw_ag, encE_brw, Option.map_some]) ?_
      rw [kc_ref04_printed4, onEnd_ret]
      simp only [aFad_rf, Nat.add_zero, Nat.zero_add]
      rw [bindP_some]
      rw [show aLd _ none (.rf 0 7 0 0) = some (.sc (.int .i64 op)) from rfl, bindP_some]
      rw [bindP_eqI, COND_no (by omega)]
      rw [bindP_eqI, COND_no (by omega)]
      rw [bindP_eqI, COND_no (by omega)]
      rw [bindP_eqI, COND_no (by omega)]
      rw [JOIN_eq]
      rw [bindP_eqI, COND_no (by omega)]
      rw [bindP_eqI, COND_no (by omega)]
      rw [bindP_eqI, COND_no (by omega)]
      rw [bindP_eqI, jk_ref04_printed3]
      simp only [List.getD_cons_zero, List.getD_cons_succ]
      rw [COND_no (by omega)]
      change bindS (some (.ow _ 1 0 12, [(_, some (Ob.c ⟨1, sgR, true, true⟩))])) _ _ _
      rw [bindS_some]
      generalize hτ : applyW _ _ = τ
      have h0 : τ 0 = some (.c ⟨7, [[.sc (.int .i64 op), .sc (.int .i64 kind), .sc (.int .i64 n), .s text, .s table, .s name, .tr [encE x, encE y]]], true, false⟩) := by rw [← hτ]; rfl
      have h16 : τ 16 = some (.c ⟨1, sgR, true, true⟩) := by rw [← hτ]; rfl
      clear hτ
      rcases (show op = 4 ∨ op = 5 ∨ op = 6 ∨ op = 7 ∨ op = 8 ∨ op = 9 ∨ op = 10 ∨ op = 11 ∨ op = 12 ∨ op = 13 ∨ op = 14 ∨ op = 15 by omega) with rfl | rfl | rfl | rfl | rfl | rfl | rfl | rfl | rfl | rfl | rfl | rfl
      all_goals
        clear ho g0 g1 g18
        repeat (first | rw [bindP_add (by simp only [List.length_append, List.length_cons, List.length_nil]; omega)] | simp (maxSteps:=1000000) (disch:=omega) only [c12,c2,c1,sgR_len,sgR_0,sgR_1,sgR_2,sgR_3,sgR_4,sgR_5,sgR_6,sgR_7,sgR_8,sgR_9,sgR_10,sgR_11,go_sem, *])
        refine CALL_con0 HCy.out (by simp only [List.append_nil, brwL_cons, brwL_nil, brw_ag, encE_brw, Option.map_some]) ?_
        rw [kc_ref04_printed2, onEnd_ret]
        rw [bindP_add (by simp only [List.length_append, List.length_cons, List.length_nil]; omega)]
        rw [bindP_add (by simp only [List.length_append, List.length_cons, List.length_nil]; omega)]
        rw [← HR.out]; exact RC_ret rfl (by rw [HPE.out]; exact congrArg (fun z => AEnd.ret (AV.s z)) (by simp [putF, signF]))
    · simp only [List.length_cons] at hal; omega
end Go.Proofs.YtodoejfkjimeaaaGreatDoor

set_option linter.unusedSimpArgs false
set_option linter.unusedVariables false
set_option maxRecDepth 100000
namespace Go.Proofs.YtodoejfkjimeaaaGreatDoor
open Go Go.RowKit Am
attribute [-go_sem] guardP_if guardK_if guardD_if COND_bool
attribute [local go_sem low] guardP_if guardK_if guardD_if COND_bool
attribute [local go_sem] wrapI wrapB upd_is upd_not Nat.zero_add Nat.add_zero
attribute [local go_sem_proc] Nat.reduceAdd Nat.reduceSub Nat.reduceMul Nat.reduceLeDiff Nat.reduceEqDiff Int.reduceAdd Int.reduceSub Int.reduceMul Int.reduceNeg Int.reduceLT Int.reduceLE Int.reduceEq Int.reduceToNat reduceCtorEq reduceIte
def namesF (x : Sm) : Bool :=
  namedF x.table (decide (x.kind ≤ 7)) && namedF x.key (decide (x.kind = 1) || decide (x.kind = 2)) && namedF x.index (decide (x.kind = 2)) && (decide (x.join = []) || (decide (x.kind = 7) && nameL x.join))
theorem nm0 : nameL [] = false := rfl
theorem name_ne {s : Tx} (h : nameL s = true) : s ≠ [] := by rintro rfl; cases h
set_option maxHeartbeats 8000000 in
theorem rfNames_con (x : Sm) (hb : SBd x) : Con Tryz.prog 28 [.ag (encSm x)] (.ret (.sc (.bool (namesF x)))) := by
  refine con_of (by_ref04_names ?_)
  generalize hR : RC _ = R
  have HR := Lib.hid hR; clear hR
  have H1 := Lib.hid (rfName_con x.table hb.table)
  have H2 := Lib.hid (rfName_con x.key hb.key)
  have H3 := Lib.hid (rfName_con x.index hb.index)
  have H4 := Lib.hid (rfName_con x.join hb.join)
  have N1 := Lib.hid (name_ne (s := x.table))
  clear hb
  obtain ⟨kind, table, columns, key, index, rows, sets, items, join, on, wh, group, order, limit⟩ := x
  simp only at H1 H2 H3 H4
  have hF : namesF ⟨kind, table, columns, key, index, rows, sets, items, join, on, wh, group, order, limit⟩ = (namedF table (decide (kind ≤ 7)) && namedF key (decide (kind = 1) || decide (kind = 2)) && namedF index (decide (kind = 2)) && (decide (join = []) || (decide (kind = 7) && nameL join))) := rfl
  have HF := Lib.hid hF; clear hF
  have hk : kind = 1 ∨ kind = 2 ∨ kind = 7 ∨ (kind ≤ 7 ∧ ¬ kind = 1 ∧ ¬ kind = 2 ∧ ¬ kind = 7) ∨ 7 < kind := by omega
  rcases hk with rfl | rfl | rfl | ⟨h7, g1, g2, g7⟩ | h7
  · have h_ := trivial
    by_cases htable : table = []
    · simp (maxSteps:=1000000) (disch:=omega) only [sh_ref04_names,encSm,decide_true,decide_false,go_sem, *]
      intro n_ hn_
      rw [← HR.out]; exact RC_ret rfl (by rw [HF.out]; simp [namedF, nm0, htable])
    · have htable_ := htable
      by_cases hkey : key = []
      · simp (maxSteps:=1000000) (disch:=omega) only [sh_ref04_names,encSm,decide_true,decide_false,go_sem, *]
        intro n_ hn_
        rw [← HR.out]; exact RC_ret rfl (by rw [HF.out]; simp [namedF, nm0, htable, hkey])
      · have hkey_ := hkey
        by_cases hindex : index = []
        · have hindex_ := hindex
          by_cases hjoin : join = []
          · simp (maxSteps:=1000000) (disch:=omega) only [sh_ref04_names,encSm,decide_true,decide_false,go_sem, *]
            intro n_ hn_
            have hc := H1.out
            cases hntable : nameL table <;> rw [hntable] at hc
            · refine CALL_con0 hc rfl ?_
              simp (maxSteps:=1000000) (disch:=omega) only [decide_true,decide_false,go_sem, *]
              rw [← HR.out]; exact RC_ret rfl (by rw [HF.out]; simp [namedF, nm0, htable, hkey, hindex, hjoin, hntable])
            · refine CALL_con0 hc rfl ?_
              simp (maxSteps:=1000000) (disch:=omega) only [decide_true,decide_false,go_sem, *]
              have hc := H2.out
              cases hnkey : nameL key <;> rw [hnkey] at hc
              · refine CALL_con0 hc rfl ?_
                simp (maxSteps:=1000000) (disch:=omega) only [decide_true,decide_false,go_sem, *]
                rw [← HR.out]; exact RC_ret rfl (by rw [HF.out]; simp [namedF, nm0, htable, hkey, hindex, hjoin, hntable, hnkey])
              · refine CALL_con0 hc rfl ?_
                simp (maxSteps:=1000000) (disch:=omega) only [decide_true,decide_false,go_sem, *]
                rw [← HR.out]; exact RC_ret rfl (by rw [HF.out]; simp [namedF, nm0, htable, hkey, hindex, hjoin, hntable, hnkey])
          · simp (maxSteps:=1000000) (disch:=omega) only [sh_ref04_names,encSm,decide_true,decide_false,go_sem, *]
            intro n_ hn_
            have hc := H1.out
            cases hntable : nameL table <;> rw [hntable] at hc
            · refine CALL_con0 hc rfl ?_
              simp (maxSteps:=1000000) (disch:=omega) only [decide_true,decide_false,go_sem, *]
              rw [← HR.out]; exact RC_ret rfl (by rw [HF.out]; simp [namedF, nm0, htable, hkey, hindex, hjoin, hntable])
            · refine CALL_con0 hc rfl ?_
              simp (maxSteps:=1000000) (disch:=omega) only [decide_true,decide_false,go_sem, *]
              have hc := H2.out
              cases hnkey : nameL key <;> rw [hnkey] at hc
              · refine CALL_con0 hc rfl ?_
                simp (maxSteps:=1000000) (disch:=omega) only [decide_true,decide_false,go_sem, *]
                rw [← HR.out]; exact RC_ret rfl (by rw [HF.out]; simp [namedF, nm0, htable, hkey, hindex, hjoin, hntable, hnkey])
              · refine CALL_con0 hc rfl ?_
                simp (maxSteps:=1000000) (disch:=omega) only [decide_true,decide_false,go_sem, *]
                rw [← HR.out]; exact RC_ret rfl (by rw [HF.out]; simp [namedF, nm0, htable, hkey, hindex, hjoin, hntable, hnkey])
        · simp (maxSteps:=1000000) (disch:=omega) only [sh_ref04_names,encSm,decide_true,decide_false,go_sem, *]
          intro n_ hn_
          rw [← HR.out]; exact RC_ret rfl (by rw [HF.out]; simp [namedF, nm0, htable, hkey, hindex])
  · have h_ := trivial
    by_cases htable : table = []
    · simp (maxSteps:=1000000) (disch:=omega) only [sh_ref04_names,encSm,decide_true,decide_false,go_sem, *]
      intro n_ hn_
      rw [← HR.out]; exact RC_ret rfl (by rw [HF.out]; simp [namedF, nm0, htable])
    · have htable_ := htable
      by_cases hkey : key = []
      · simp (maxSteps:=1000000) (disch:=omega) only [sh_ref04_names,encSm,decide_true,decide_false,go_sem, *]
        intro n_ hn_
        rw [← HR.out]; exact RC_ret rfl (by rw [HF.out]; simp [namedF, nm0, htable, hkey])
      · have hkey_ := hkey
        by_cases hindex : index = []
        · simp (maxSteps:=1000000) (disch:=omega) only [sh_ref04_names,encSm,decide_true,decide_false,go_sem, *]
          intro n_ hn_
          rw [← HR.out]; exact RC_ret rfl (by rw [HF.out]; simp [namedF, nm0, htable, hkey, hindex])
        · have hindex_ := hindex
          by_cases hjoin : join = []
          · simp (maxSteps:=1000000) (disch:=omega) only [sh_ref04_names,encSm,decide_true,decide_false,go_sem, *]
            intro n_ hn_
            have hc := H1.out
            cases hntable : nameL table <;> rw [hntable] at hc
            · refine CALL_con0 hc rfl ?_
              simp (maxSteps:=1000000) (disch:=omega) only [decide_true,decide_false,go_sem, *]
              rw [← HR.out]; exact RC_ret rfl (by rw [HF.out]; simp [namedF, nm0, htable, hkey, hindex, hjoin, hntable])
            · refine CALL_con0 hc rfl ?_
              simp (maxSteps:=1000000) (disch:=omega) only [decide_true,decide_false,go_sem, *]
              have hc := H2.out
              cases hnkey : nameL key <;> rw [hnkey] at hc
              · refine CALL_con0 hc rfl ?_
                simp (maxSteps:=1000000) (disch:=omega) only [decide_true,decide_false,go_sem, *]
                rw [← HR.out]; exact RC_ret rfl (by rw [HF.out]; simp [namedF, nm0, htable, hkey, hindex, hjoin, hntable, hnkey])
              · refine CALL_con0 hc rfl ?_
                simp (maxSteps:=1000000) (disch:=omega) only [decide_true,decide_false,go_sem, *]
                have hc := H3.out
                cases hnindex : nameL index <;> rw [hnindex] at hc
                · refine CALL_con0 hc rfl ?_
                  simp (maxSteps:=1000000) (disch:=omega) only [decide_true,decide_false,go_sem, *]
                  rw [← HR.out]; exact RC_ret rfl (by rw [HF.out]; simp [namedF, nm0, htable, hkey, hindex, hjoin, hntable, hnkey, hnindex])
                · refine CALL_con0 hc rfl ?_
                  simp (maxSteps:=1000000) (disch:=omega) only [decide_true,decide_false,go_sem, *]
                  rw [← HR.out]; exact RC_ret rfl (by rw [HF.out]; simp [namedF, nm0, htable, hkey, hindex, hjoin, hntable, hnkey, hnindex])
          · simp (maxSteps:=1000000) (disch:=omega) only [sh_ref04_names,encSm,decide_true,decide_false,go_sem, *]
            intro n_ hn_
            have hc := H1.out
            cases hntable : nameL table <;> rw [hntable] at hc
            · refine CALL_con0 hc rfl ?_
              simp (maxSteps:=1000000) (disch:=omega) only [decide_true,decide_false,go_sem, *]
              rw [← HR.out]; exact RC_ret rfl (by rw [HF.out]; simp [namedF, nm0, htable, hkey, hindex, hjoin, hntable])
            · refine CALL_con0 hc rfl ?_
              simp (maxSteps:=1000000) (disch:=omega) only [decide_true,decide_false,go_sem, *]
              have hc := H2.out
              cases hnkey : nameL key <;> rw [hnkey] at hc
              · refine CALL_con0 hc rfl ?_
                simp (maxSteps:=1000000) (disch:=omega) only [decide_true,decide_false,go_sem, *]
                rw [← HR.out]; exact RC_ret rfl (by rw [HF.out]; simp [namedF, nm0, htable, hkey, hindex, hjoin, hntable, hnkey])
              · refine CALL_con0 hc rfl ?_
                simp (maxSteps:=1000000) (disch:=omega) only [decide_true,decide_false,go_sem, *]
                have hc := H3.out
                cases hnindex : nameL index <;> rw [hnindex] at hc
                · refine CALL_con0 hc rfl ?_
                  simp (maxSteps:=1000000) (disch:=omega) only [decide_true,decide_false,go_sem, *]
                  rw [← HR.out]; exact RC_ret rfl (by rw [HF.out]; simp [namedF, nm0, htable, hkey, hindex, hjoin, hntable, hnkey, hnindex])
                · refine CALL_con0 hc rfl ?_
                  simp (maxSteps:=1000000) (disch:=omega) only [decide_true,decide_false,go_sem, *]
                  rw [← HR.out]; exact RC_ret rfl (by rw [HF.out]; simp [namedF, nm0, htable, hkey, hindex, hjoin, hntable, hnkey, hnindex])
  · have h_ := trivial
    by_cases htable : table = []
    · simp (maxSteps:=1000000) (disch:=omega) only [sh_ref04_names,encSm,decide_true,decide_false,go_sem, *]
      intro n_ hn_
      rw [← HR.out]; exact RC_ret rfl (by rw [HF.out]; simp [namedF, nm0, htable])
    · have htable_ := htable
      by_cases hkey : key = []
      · have hkey_ := hkey
        by_cases hindex : index = []
        · have hindex_ := hindex
          by_cases hjoin : join = []
          · simp (maxSteps:=1000000) (disch:=omega) only [sh_ref04_names,encSm,decide_true,decide_false,go_sem, *]
            intro n_ hn_
            have hc := H1.out
            cases hntable : nameL table <;> rw [hntable] at hc
            · refine CALL_con0 hc rfl ?_
              simp (maxSteps:=1000000) (disch:=omega) only [decide_true,decide_false,go_sem, *]
              rw [← HR.out]; exact RC_ret rfl (by rw [HF.out]; simp [namedF, nm0, htable, hkey, hindex, hjoin, hntable])
            · refine CALL_con0 hc rfl ?_
              simp (maxSteps:=1000000) (disch:=omega) only [decide_true,decide_false,go_sem, *]
              rw [← HR.out]; exact RC_ret rfl (by rw [HF.out]; simp [namedF, nm0, htable, hkey, hindex, hjoin, hntable])
          · simp (maxSteps:=1000000) (disch:=omega) only [sh_ref04_names,encSm,decide_true,decide_false,go_sem, *]
            intro n_ hn_
            have hc := H1.out
            cases hntable : nameL table <;> rw [hntable] at hc
            · refine CALL_con0 hc rfl ?_
              simp (maxSteps:=1000000) (disch:=omega) only [decide_true,decide_false,go_sem, *]
              rw [← HR.out]; exact RC_ret rfl (by rw [HF.out]; simp [namedF, nm0, htable, hkey, hindex, hjoin, hntable])
            · refine CALL_con0 hc rfl ?_
              simp (maxSteps:=1000000) (disch:=omega) only [decide_true,decide_false,go_sem, *]
              have hc := H4.out
              cases hnjoin : nameL join <;> rw [hnjoin] at hc
              · refine CALL_con0 hc rfl ?_
                simp (maxSteps:=1000000) (disch:=omega) only [decide_true,decide_false,go_sem, *]
                rw [← HR.out]; exact RC_ret rfl (by rw [HF.out]; simp [namedF, nm0, htable, hkey, hindex, hjoin, hntable, hnjoin])
              · refine CALL_con0 hc rfl ?_
                simp (maxSteps:=1000000) (disch:=omega) only [decide_true,decide_false,go_sem, *]
                rw [← HR.out]; exact RC_ret rfl (by rw [HF.out]; simp [namedF, nm0, htable, hkey, hindex, hjoin, hntable, hnjoin])
        · simp (maxSteps:=1000000) (disch:=omega) only [sh_ref04_names,encSm,decide_true,decide_false,go_sem, *]
          intro n_ hn_
          rw [← HR.out]; exact RC_ret rfl (by rw [HF.out]; simp [namedF, nm0, htable, hkey, hindex])
      · simp (maxSteps:=1000000) (disch:=omega) only [sh_ref04_names,encSm,decide_true,decide_false,go_sem, *]
        intro n_ hn_
        rw [← HR.out]; exact RC_ret rfl (by rw [HF.out]; simp [namedF, nm0, htable, hkey])
  · have h_ := trivial
    by_cases htable : table = []
    · simp (maxSteps:=1000000) (disch:=omega) only [sh_ref04_names,encSm,decide_true,decide_false,go_sem, *]
      intro n_ hn_
      rw [← HR.out]; exact RC_ret rfl (by rw [HF.out]; simp [namedF, nm0, h7, g1, g2, g7, htable])
    · have htable_ := htable
      by_cases hkey : key = []
      · have hkey_ := hkey
        by_cases hindex : index = []
        · have hindex_ := hindex
          by_cases hjoin : join = []
          · simp (maxSteps:=1000000) (disch:=omega) only [sh_ref04_names,encSm,decide_true,decide_false,go_sem, *]
            intro n_ hn_
            have hc := H1.out
            cases hntable : nameL table <;> rw [hntable] at hc
            · refine CALL_con0 hc rfl ?_
              simp (maxSteps:=1000000) (disch:=omega) only [decide_true,decide_false,go_sem, *]
              rw [← HR.out]; exact RC_ret rfl (by rw [HF.out]; simp [namedF, nm0, h7, g1, g2, g7, htable, hkey, hindex, hjoin, hntable])
            · refine CALL_con0 hc rfl ?_
              simp (maxSteps:=1000000) (disch:=omega) only [decide_true,decide_false,go_sem, *]
              rw [← HR.out]; exact RC_ret rfl (by rw [HF.out]; simp [namedF, nm0, h7, g1, g2, g7, htable, hkey, hindex, hjoin, hntable])
          · simp (maxSteps:=1000000) (disch:=omega) only [sh_ref04_names,encSm,decide_true,decide_false,go_sem, *]
            intro n_ hn_
            have hc := H1.out
            cases hntable : nameL table <;> rw [hntable] at hc
            · refine CALL_con0 hc rfl ?_
              simp (maxSteps:=1000000) (disch:=omega) only [decide_true,decide_false,go_sem, *]
              rw [← HR.out]; exact RC_ret rfl (by rw [HF.out]; simp [namedF, nm0, h7, g1, g2, g7, htable, hkey, hindex, hjoin, hntable])
            · refine CALL_con0 hc rfl ?_
              simp (maxSteps:=1000000) (disch:=omega) only [decide_true,decide_false,go_sem, *]
              rw [← HR.out]; exact RC_ret rfl (by rw [HF.out]; simp [namedF, nm0, h7, g1, g2, g7, htable, hkey, hindex, hjoin, hntable])
        · simp (maxSteps:=1000000) (disch:=omega) only [sh_ref04_names,encSm,decide_true,decide_false,go_sem, *]
          intro n_ hn_
          rw [← HR.out]; exact RC_ret rfl (by rw [HF.out]; simp [namedF, nm0, h7, g1, g2, g7, htable, hkey, hindex])
      · simp (maxSteps:=1000000) (disch:=omega) only [sh_ref04_names,encSm,decide_true,decide_false,go_sem, *]
        intro n_ hn_
        rw [← HR.out]; exact RC_ret rfl (by rw [HF.out]; simp [namedF, nm0, h7, g1, g2, g7, htable, hkey])
  · have h_ := trivial
    have g1 : ¬ kind = 1 := by omega
    have g2 : ¬ kind = 2 := by omega
    have g7 : ¬ kind = 7 := by omega
    have h7 : ¬ kind ≤ 7 := by omega
    by_cases htable : table = []
    · have htable_ := htable
      by_cases hkey : key = []
      · have hkey_ := hkey
        by_cases hindex : index = []
        · have hindex_ := hindex
          by_cases hjoin : join = []
          · simp (maxSteps:=1000000) (disch:=omega) only [sh_ref04_names,encSm,decide_true,decide_false,go_sem, *]
            intro n_ hn_
            rw [← HR.out]; exact RC_ret rfl (by rw [HF.out]; simp [namedF, nm0, h7, g1, g2, g7, htable, hkey, hindex, hjoin])
          · simp (maxSteps:=1000000) (disch:=omega) only [sh_ref04_names,encSm,decide_true,decide_false,go_sem, *]
            intro n_ hn_
            rw [← HR.out]; exact RC_ret rfl (by rw [HF.out]; simp [namedF, nm0, h7, g1, g2, g7, htable, hkey, hindex, hjoin])
        · simp (maxSteps:=1000000) (disch:=omega) only [sh_ref04_names,encSm,decide_true,decide_false,go_sem, *]
          intro n_ hn_
          rw [← HR.out]; exact RC_ret rfl (by rw [HF.out]; simp [namedF, nm0, h7, g1, g2, g7, htable, hkey, hindex])
      · simp (maxSteps:=1000000) (disch:=omega) only [sh_ref04_names,encSm,decide_true,decide_false,go_sem, *]
        intro n_ hn_
        rw [← HR.out]; exact RC_ret rfl (by rw [HF.out]; simp [namedF, nm0, h7, g1, g2, g7, htable, hkey])
    · simp (maxSteps:=1000000) (disch:=omega) only [sh_ref04_names,encSm,decide_true,decide_false,go_sem, *]
      intro n_ hn_
      rw [← HR.out]; exact RC_ret rfl (by rw [HF.out]; simp [namedF, nm0, h7, g1, g2, g7, htable])
--names--
end Go.Proofs.YtodoejfkjimeaaaGreatDoor

set_option linter.unusedSimpArgs false
set_option linter.unusedVariables false
set_option maxRecDepth 100000
namespace Go.Proofs.YtodoejfkjimeaaaGreatDoor
open Go Go.RowKit Am
attribute [-go_sem] guardP_if guardK_if guardD_if COND_bool
attribute [local go_sem low] guardP_if guardK_if guardD_if COND_bool
attribute [local go_sem] wrapI wrapB upd_is upd_not Nat.zero_add Nat.add_zero
attribute [local go_sem_proc] Nat.reduceAdd Nat.reduceSub Nat.reduceMul Nat.reduceLeDiff Nat.reduceEqDiff Int.reduceAdd Int.reduceSub Int.reduceMul Int.reduceNeg Int.reduceLT Int.reduceLE Int.reduceEq Int.reduceToNat reduceCtorEq reduceIte
def lstF (x : Sm) : Bool := !x.columns.any colBad && !x.rows.any rowBad && !x.sets.any setBad && !x.order.any ordBad
theorem any_no {α : Type} {q : α → Bool} {l : List α} {i : Nat} {x : α} (hx : l[i]? = some x) (h0 : (l.take i).any q = false) (h : q x = false) : (l.take (i + 1)).any q = false := by rw [any_take hx, h0, h]; rfl
set_option maxHeartbeats 8000000 in
theorem rfLists_con (x : Sm) (hb : SBd x) : Con Tryz.prog 29 [.ag (encSm x)] (.ret (.sc (.bool (lstF x)))) := by
  refine con_of (by_ref04_lists ?_)
  generalize hR : RC _ = R
  have HR := Lib.hid hR; clear hR
  have e2 := hb.cols; have e5 := hb.rows; have e6 := hb.sets; have e12 := hb.order
  have e5' := fun l hl => (hb.row l hl).len
  have HC := Lib.hid (fun c hc => rfName_con (Cl.name c) (hb.col c hc))
  have HS := Lib.hid (fun s hs => rfName_con (Se.name s) (hb.set s hs).1)
  have HE5 := Lib.hid e5'; clear e5' hb
  obtain ⟨kind, table, columns, key, index, rows, sets, items, join, on, wh, group, order, limit⟩ := x
  simp only at HC HS e2 e5 e6 e12 HE5
  have hF : lstF ⟨kind, table, columns, key, index, rows, sets, items, join, on, wh, group, order, limit⟩ = (!columns.any colBad && !rows.any rowBad && !sets.any setBad && !order.any ordBad) := rfl
  have HF := Lib.hid hF; clear hF
  simp (maxSteps:=1000000) (disch:=omega) only [sh_ref04_lists,encSm,go_sem, *]
  generalize hσ : upd _ _ _ = σ
  have h0 : σ 0 = some (.c ⟨14, [[.sc (.int .i64 kind), .s table, .tr (columns.map encC), .s key, .s index, .tr (rows.map encRx), .tr (sets.map encS), .tr (items.map encE), .s join, .tr (on.map encE), .tr (wh.map encE), .tr (group.map encE), .tr (order.map encO), .sc (.int .i64 limit)]], true, false⟩) := by rw [← hσ]; exact upd_is rfl
  clear hσ
  refine LOOP_list columns (fun i st => ∃ a b c, st = [a, b, c, .sc (.int .i64 i)] ∧ (columns.take i).any colBad = false) ⟨_, _, _, rfl, rfl⟩ ?_ ?_
  · rintro i c K st n' hx hi hi' hn ⟨x0, x1, x2, rfl, h1⟩ hK
    have HK := Lib.hid hK; clear hK
    have HN := Lib.hid (any_no hx h1)
    have HY := Lib.hid (any_stop (q := colBad) hx)
    have HX := Lib.hid (HC.out c (List.mem_of_getElem? hx)); clear h1
    simp (maxSteps:=1000000) (disch:=omega) only [lb_ref04_lists6,List.getD_cons_succ,List.getD_cons_zero,decide_true,decide_false,encC,go_sem, *]
    intro _
    refine CALL_con0 HX.out rfl ?_
    have hb : colBad c = true ∨ colBad c = false := by cases colBad c <;> simp
    have hcb : colBad c = (!nameL c.name || decide (c.kind < 1) || decide (3 < c.kind)) := rfl
    rcases hb with hb | hb
    · have HY' := Lib.hid (HY.out hb); clear HY HN
      rw [hb] at hcb
      cases hn1 : nameL c.name
      · clear hcb
        simp (maxSteps:=1000000) (disch:=omega) only [List.getD_cons_succ,List.getD_cons_zero,decide_true,decide_false,encC,go_sem, *]
        rw [← HR.out]; exact RC_ret rfl (by rw [HF.out, HY'.out]; rfl)
      · by_cases hk : c.kind < 1
        · clear hcb
          simp (maxSteps:=1000000) (disch:=omega) only [List.getD_cons_succ,List.getD_cons_zero,decide_true,decide_false,encC,go_sem, *]
          rw [← HR.out]; exact RC_ret rfl (by rw [HF.out, HY'.out]; rfl)
        · have hk3 : 3 < c.kind := by simpa [hn1, hk] using hcb
          clear hcb
          simp (maxSteps:=1000000) (disch:=omega) only [List.getD_cons_succ,List.getD_cons_zero,decide_true,decide_false,encC,go_sem, *]
          rw [← HR.out]; exact RC_ret rfl (by rw [HF.out, HY'.out]; rfl)
    · have HN' := Lib.hid (HN.out hb); clear HY HN
      rw [hb] at hcb
      have hcb' := hcb.symm
      simp only [Bool.or_eq_false_iff, Bool.not_eq_false', decide_eq_false_iff_not] at hcb'
      obtain ⟨⟨hn1, hk1⟩, hk3⟩ := hcb'
      clear hcb
      simp (maxSteps:=1000000) (disch:=omega) only [List.getD_cons_succ,List.getD_cons_zero,decide_true,decide_false,encC,go_sem, *]
      exact HK.out _ _ (Nat.le_refl _) ⟨_, _, _, rfl, HN'.out⟩
  · rintro K st n' hn ⟨x0, x1, x2, rfl, hcols⟩
    rw [List.take_length] at hcols
    have HF1 := HF.out
    rw [hcols] at HF1
    have HF1' := Lib.hid HF1; clear HF1 HF
    clear hcols
    simp (maxSteps:=1000000) (disch:=omega) only [lb_ref04_lists6,List.getD_cons_succ,List.getD_cons_zero,decide_true,decide_false,Int.lt_irrefl,go_sem, *]
    intro _
    refine LOOP_list rows (fun i st => ∃ a b c, st = [a, b, c, .sc (.int .i64 i)] ∧ (rows.take i).any rowBad = false) ⟨_, _, _, rfl, rfl⟩ ?_ ?_
    · rintro i l K st n'' hx hi hi' hn ⟨x0, x1, x2, rfl, h1⟩ hK
      have HK := Lib.hid hK; clear hK
      have HN := Lib.hid (any_no hx h1)
      have HY := Lib.hid (any_stop (q := rowBad) hx)
      have hl := HE5.out l (List.mem_of_getElem? hx); clear h1
      have hb : rowBad l = true ∨ rowBad l = false := by cases rowBad l <;> simp
      have hcb : rowBad l = (decide ((l.length : Int) < 1) || decide (8 < (l.length : Int))) := rfl
      rcases hb with hb | hb
      · have HY' := Lib.hid (HY.out hb); clear HY HN
        rw [hb] at hcb
        by_cases hk : (l.length : Int) < 1
        · clear hcb
          simp (maxSteps:=1000000) (disch:=omega) only [lb_ref04_lists5,List.getD_cons_succ,List.getD_cons_zero,decide_true,decide_false,encRx,List.map_map,go_sem, *]
          intro _ _
          rw [← HR.out]; exact RC_ret rfl (by rw [HF1'.out, HY'.out]; rfl)
        · have hk3 : 8 < (l.length : Int) := by simpa [hk] using hcb
          clear hcb
          simp (maxSteps:=1000000) (disch:=omega) only [lb_ref04_lists5,List.getD_cons_succ,List.getD_cons_zero,decide_true,decide_false,encRx,List.map_map,go_sem, *]
          intro _ _
          rw [← HR.out]; exact RC_ret rfl (by rw [HF1'.out, HY'.out]; rfl)
      · have HN' := Lib.hid (HN.out hb); clear HY HN
        rw [hb] at hcb
        have hcb' := hcb.symm
        simp only [Bool.or_eq_false_iff, decide_eq_false_iff_not] at hcb'
        obtain ⟨hk1, hk3⟩ := hcb'
        clear hcb
        simp (maxSteps:=1000000) (disch:=omega) only [lb_ref04_lists5,List.getD_cons_succ,List.getD_cons_zero,decide_true,decide_false,encRx,List.map_map,go_sem, *]
        intro _ _
        exact HK.out _ _ (Nat.le_refl _) ⟨_, _, _, rfl, HN'.out⟩
    · rintro K st n' hn ⟨x0, x1, x2, rfl, hrows⟩
      rw [List.take_length] at hrows
      have HF2 := HF1'.out
      rw [hrows] at HF2
      have HF2' := Lib.hid HF2; clear HF2 HF1'
      clear hrows
      simp (maxSteps:=1000000) (disch:=omega) only [lb_ref04_lists5,List.getD_cons_succ,List.getD_cons_zero,decide_true,decide_false,Int.lt_irrefl,go_sem, *]
      intro _
      refine LOOP_list sets (fun i st => ∃ a b c, st = [a, b, c, .sc (.int .i64 i)] ∧ (sets.take i).any setBad = false) ⟨_, _, _, rfl, rfl⟩ ?_ ?_
      · rintro i s K st n'' hx hi hi' hn ⟨x0, x1, x2, rfl, h1⟩ hK
        have HK := Lib.hid hK; clear hK
        have HN := Lib.hid (any_no hx h1)
        have HY := Lib.hid (any_stop (q := setBad) hx)
        have HX := Lib.hid (HS.out s (List.mem_of_getElem? hx)); clear h1
        have hen : (encS s)[0]? = some (.s s.name) := rfl
        simp (maxSteps:=1000000) (disch:=omega) only [lb_ref04_lists4,List.getD_cons_succ,List.getD_cons_zero,decide_true,decide_false,go_sem, *]
        intro _
        refine CALL_con0 HX.out rfl ?_
        cases hn1 : nameL s.name
        · have HY' := Lib.hid (HY.out (by rw [setBad, hn1]; rfl)); clear HY HN
          simp (maxSteps:=1000000) (disch:=omega) only [decide_true,decide_false,go_sem, *]
          rw [← HR.out]; exact RC_ret rfl (by rw [HF2'.out, HY'.out]; rfl)
        · have HN' := Lib.hid (HN.out (by rw [setBad, hn1]; rfl)); clear HY HN
          simp (maxSteps:=1000000) (disch:=omega) only [decide_true,decide_false,go_sem, *]
          exact HK.out _ _ (Nat.le_refl _) ⟨_, _, _, rfl, HN'.out⟩
      · rintro K st n' hn ⟨x0, x1, x2, rfl, hsets⟩
        rw [List.take_length] at hsets
        have HF3 := HF2'.out
        rw [hsets] at HF3
        have HF3' := Lib.hid HF3; clear HF3 HF2'
        clear hsets
        simp (maxSteps:=1000000) (disch:=omega) only [lb_ref04_lists4,List.getD_cons_succ,List.getD_cons_zero,decide_true,decide_false,Int.lt_irrefl,go_sem, *]
        intro _
        refine LOOP_list order (fun i st => ∃ a b c, st = [a, b, c, .sc (.int .i64 i)] ∧ (order.take i).any ordBad = false) ⟨_, _, _, rfl, rfl⟩ ?_ ?_
        · rintro i o K st n'' hx hi hi' hn ⟨x0, x1, x2, rfl, h1⟩ hK
          have HK := Lib.hid hK; clear hK
          have HN := Lib.hid (any_no hx h1)
          have HY := Lib.hid (any_stop (q := ordBad) hx); clear h1
          have hb : ordBad o = true ∨ ordBad o = false := by cases ordBad o <;> simp
          have hcb : ordBad o = (decide (o.n < 1) || decide (16 < o.n)) := rfl
          rcases hb with hb | hb
          · have HY' := Lib.hid (HY.out hb); clear HY HN
            rw [hb] at hcb
            by_cases hk : o.n < 1
            · clear hcb
              simp (maxSteps:=1000000) (disch:=omega) only [lb_ref04_lists3,List.getD_cons_succ,List.getD_cons_zero,decide_true,decide_false,encO,go_sem, *]
              intro _
              rw [← HR.out]; exact RC_ret rfl (by rw [HF3'.out, HY'.out]; rfl)
            · have hk3 : 16 < o.n := by simpa [hk] using hcb
              clear hcb
              simp (maxSteps:=1000000) (disch:=omega) only [lb_ref04_lists3,List.getD_cons_succ,List.getD_cons_zero,decide_true,decide_false,encO,go_sem, *]
              intro _
              rw [← HR.out]; exact RC_ret rfl (by rw [HF3'.out, HY'.out]; rfl)
          · have HN' := Lib.hid (HN.out hb); clear HY HN
            rw [hb] at hcb
            have hcb' := hcb.symm
            simp only [Bool.or_eq_false_iff, decide_eq_false_iff_not] at hcb'
            obtain ⟨hk1, hk3⟩ := hcb'
            clear hcb
            simp (maxSteps:=1000000) (disch:=omega) only [lb_ref04_lists3,List.getD_cons_succ,List.getD_cons_zero,decide_true,decide_false,encO,go_sem, *]
            intro _
            exact HK.out _ _ (Nat.le_refl _) ⟨_, _, _, rfl, HN'.out⟩
        · rintro K st n' hn ⟨x0, x1, x2, rfl, hord⟩
          rw [List.take_length] at hord
          have HF4 := HF3'.out
          rw [hord] at HF4
          have HF4' := Lib.hid HF4; clear HF4 HF3'
          clear hord
          simp (maxSteps:=1000000) (disch:=omega) only [lb_ref04_lists3,List.getD_cons_succ,List.getD_cons_zero,decide_true,decide_false,Int.lt_irrefl,go_sem, *]
          intro _
          rw [← HR.out]; exact RC_ret rfl (by rw [HF4'.out]; rfl)
end Go.Proofs.YtodoejfkjimeaaaGreatDoor
