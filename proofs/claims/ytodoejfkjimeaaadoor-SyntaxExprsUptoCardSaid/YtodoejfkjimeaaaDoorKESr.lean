/- Packed by a program of this repo: Sr. -/
import Derived.Test.YtodoejfkjimeaaaDoorKESq
import Derived.Test.YtodoejfkjimeaaaDoorKEDb
set_option linter.unusedSimpArgs false
set_option linter.unusedVariables false
set_option maxRecDepth 100000
namespace Go.Proofs.YtodoejfkjimeaaaDoor
open Go Go.RowKit Am
attribute [-go_sem] guardP_if guardK_if guardD_if COND_bool
attribute [local go_sem low] guardP_if guardK_if guardD_if COND_bool
attribute [-go_sem] binS_add

theorem bindP_add {a b : List UInt8} {f : AV → Prop} (h : a.length + b.length ≤ 9223372036854775807) : bindP (semBin .add (.s a) (.s b)) f = f (.s (a ++ b)) := by
  rw [binS_add, if_pos h]; rfl
theorem literal_con (kind n : Int) (text : Tx) (h2 : kind = 2 → n = 0 ∨ n = 1) (hr : rng n) (ht : text.length ≤ 1048576) : Con Tryd.prog 59 [.ag [.sc (.int .i64 kind), .sc (.int .i64 n), .s text]] (.ret (.s (litF kind n text))) := by
  refine con_of (by_syntax_Literal ?_)
  generalize hR : RC _ = R
  have HR := Lib.hid hR; clear hR
  have HD := Lib.hid (decimal_con 40 19 n (by omega) (by unfold rng at hr; omega) (by split <;> omega) (by omega) hr)
  have HRp := Lib.hid (replace_con text ht)
  have hl := replace_len (count_le text)
  clear hr
  by_cases g0 : kind = 0
  · simp (maxSteps := 1000000) (disch := omega) only [sh_syntax_Literal, decide_true, decide_false, go_sem, wrapI, wrapB, upd_is, upd_not, Nat.reduceAdd, Nat.reduceSub, Nat.reduceMul, Nat.reduceLeDiff, Nat.reduceEqDiff, Int.reduceAdd, Int.reduceSub, Int.reduceMul, Int.reduceNeg, Int.reduceLT, Int.reduceLE, Int.reduceEq, Int.reduceToNat, reduceCtorEq, reduceIte, Nat.zero_add, Nat.add_zero, *]
    rw [← HR.out]; exact RC_ret rfl (by rw [litF, if_pos g0])
  · by_cases g1 : kind = 1
    · simp (maxSteps := 1000000) (disch := omega) only [sh_syntax_Literal, decide_true, decide_false, go_sem, wrapI, wrapB, upd_is, upd_not, Nat.reduceAdd, Nat.reduceSub, Nat.reduceMul, Nat.reduceLeDiff, Nat.reduceEqDiff, Int.reduceAdd, Int.reduceSub, Int.reduceMul, Int.reduceNeg, Int.reduceLT, Int.reduceLE, Int.reduceEq, Int.reduceToNat, reduceCtorEq, reduceIte, Nat.zero_add, Nat.add_zero, *]
      refine CALL_con0 HD.out rfl ?_
      simp (maxSteps := 1000000) (disch := omega) only [go_sem, wrapI, wrapB, upd_is, upd_not, Nat.reduceAdd, Nat.reduceSub, Nat.reduceMul, Nat.reduceLeDiff, Nat.reduceEqDiff, Int.reduceAdd, Int.reduceSub, Int.reduceMul, Int.reduceNeg, Int.reduceLT, Int.reduceLE, Int.reduceEq, Int.reduceToNat, reduceCtorEq, reduceIte, Nat.zero_add, Nat.add_zero, *]
      rw [← HR.out]; exact RC_ret rfl (by rw [litF, if_neg g0, if_pos g1])
    · by_cases g2 : kind = 2
      · rcases h2 g2 with rfl | rfl
        · have c2 : ((2 : Nat) : Int) = 2 := rfl
          simp (maxSteps := 1000000) (disch := omega) only [sh_syntax_Literal, decide_true, decide_false, c2, go_sem, wrapI, wrapB, upd_is, upd_not, Nat.reduceAdd, Nat.reduceSub, Nat.reduceMul, Nat.reduceLeDiff, Nat.reduceEqDiff, Int.reduceAdd, Int.reduceSub, Int.reduceMul, Int.reduceNeg, Int.reduceLT, Int.reduceLE, Int.reduceEq, Int.reduceToNat, reduceCtorEq, reduceIte, Nat.zero_add, Nat.add_zero, *]
          rw [← HR.out]; exact RC_ret rfl (by rw [litF, if_neg g0, if_neg g1, if_pos g2]; rfl)
        · have c2 : ((2 : Nat) : Int) = 2 := rfl
          simp (maxSteps := 1000000) (disch := omega) only [sh_syntax_Literal, decide_true, decide_false, c2, go_sem, wrapI, wrapB, upd_is, upd_not, Nat.reduceAdd, Nat.reduceSub, Nat.reduceMul, Nat.reduceLeDiff, Nat.reduceEqDiff, Int.reduceAdd, Int.reduceSub, Int.reduceMul, Int.reduceNeg, Int.reduceLT, Int.reduceLE, Int.reduceEq, Int.reduceToNat, reduceCtorEq, reduceIte, Nat.zero_add, Nat.add_zero, *]
          rw [← HR.out]; exact RC_ret rfl (by rw [litF, if_neg g0, if_neg g1, if_pos g2]; rfl)
      · clear h2
        simp (maxSteps := 1000000) (disch := omega) only [sh_syntax_Literal, decide_true, decide_false, go_sem, wrapI, wrapB, upd_is, upd_not, Nat.reduceAdd, Nat.reduceSub, Nat.reduceMul, Nat.reduceLeDiff, Nat.reduceEqDiff, Int.reduceAdd, Int.reduceSub, Int.reduceMul, Int.reduceNeg, Int.reduceLT, Int.reduceLE, Int.reduceEq, Int.reduceToNat, reduceCtorEq, reduceIte, Nat.zero_add, Nat.add_zero, *]
        refine CALL_con0 HRp.out rfl ?_
        generalize hrr : Lib.replaceAll text [39] [39, 39] = rr at *
        simp (maxSteps := 1000000) (disch := omega) only [go_sem, wrapI, wrapB, upd_is, upd_not, Nat.reduceAdd, Nat.reduceSub, Nat.reduceMul, Nat.reduceLeDiff, Nat.reduceEqDiff, Int.reduceAdd, Int.reduceSub, Int.reduceMul, Int.reduceNeg, Int.reduceLT, Int.reduceLE, Int.reduceEq, Int.reduceToNat, reduceCtorEq, reduceIte, Nat.zero_add, Nat.add_zero, *]
        rw [bindP_add (by simp only [List.length_cons, List.length_nil]; omega)]
        rw [bindP_add (by simp only [List.length_append, List.length_cons, List.length_nil]; omega)]
        rw [← HR.out]; exact RC_ret rfl (by rw [litF, if_neg g0, if_neg g1, if_neg g2, hrr])
theorem valOk_two {kind n : Int} {text : Tx} (h : valOk kind n text = true) (hr : rng n) (h2 : kind = 2) : n = 0 ∨ n = 1 := by
  subst h2
  unfold rng at hr
  simp [valOk] at h
  have := h.2
  simp [IntKind.wrap, IntKind.signed, IntKind.bits] at this
  omega
theorem bindP_eqI (k : IntKind) (a b : Int) (f : AV → Prop) : bindP (semBin .eql (.sc (.int k a)) (.sc (.int k b))) f = f (.sc (.bool (decide (a = b)))) := by
  rw [bin_eql]; rfl
theorem bindP_ltI (k : IntKind) (a b : Int) (f : AV → Prop) : bindP (semBin .lss (.sc (.int k a)) (.sc (.int k b))) f = f (.sc (.bool (decide (a < b)))) := by
  rw [bin_lss]; rfl
theorem COND_no {p : Prop} [Decidable p] (h : ¬ p) (A B : Prop) : COND (.sc (.bool (decide p))) A B = B := by
  rw [decide_eq_false h]; exact COND_false A B
theorem COND_yes {p : Prop} [Decidable p] (h : p) (A B : Prop) : COND (.sc (.bool (decide p))) A B = A := by
  rw [decide_eq_true h]; exact COND_true A B
def sgA : List AV := [.s [43], .s [45], .s [42], .s [47], .s [61], .s [60, 62], .s [60], .s [60, 61], .s [62], .s [62, 61], .s [65, 78, 68], .s [79, 82]]
def zA : List AV := [.s [], .s [], .s [], .s [], .s [], .s [], .s [], .s [], .s [], .s [], .s [], .s []]
theorem sgA_len : sgA.length = 12 := rfl
theorem zA_len : zA.length = 12 := rfl
theorem sgA_leaf : sgA.all leafok = true := rfl
theorem zA_drop : zA.drop 12 = [] := rfl
theorem sgA_cells : (AV.ag sgA).cells = some sgA := rfl
theorem sgA_0 : sgA[0]? = some (.s [43]) := rfl
theorem sgA_1 : sgA[1]? = some (.s [45]) := rfl
theorem sgA_2 : sgA[2]? = some (.s [42]) := rfl
theorem sgA_3 : sgA[3]? = some (.s [47]) := rfl
theorem sgA_4 : sgA[4]? = some (.s [61]) := rfl
theorem sgA_5 : sgA[5]? = some (.s [60, 62]) := rfl
theorem sgA_6 : sgA[6]? = some (.s [60]) := rfl
theorem sgA_7 : sgA[7]? = some (.s [60, 61]) := rfl
theorem sgA_8 : sgA[8]? = some (.s [62]) := rfl
theorem sgA_9 : sgA[9]? = some (.s [62, 61]) := rfl
theorem sgA_10 : sgA[10]? = some (.s [65, 78, 68]) := rfl
theorem sgA_11 : sgA[11]? = some (.s [79, 82]) := rfl
set_option maxHeartbeats 8000000 in
theorem printed_con : ∀ (k : Nat) (e : Ep), k ≤ 12 → OKk k e → Bd e → Rg e → Con Tryd.prog 27 [.ag (encE e)] (.ret (.s (printF e)))
  | 0, e, _, h, _, _ => h.elim
  | k + 1, e, hk, hok, hb, hrg => by
    refine con_of (by_syntax_printed ?_)
    generalize hR : RC _ = R
    have HR := Lib.hid hR; clear hR
    have hpe := printF_eq e
    have hlen : ∀ a ∈ e.args, (printF a).length ≤ 17000000000 := by
      intro a ha
      obtain ⟨i, hi⟩ := List.mem_iff_getElem?.1 ha
      have := print_len k a (hok.2 a ha) (hb.arg hi)
      have h2 : 2 ^ k ≤ 2 ^ 11 := Nat.pow_le_pow_right (by omega) (by omega)
      omega
    have IH := Lib.hid (fun a (ha : a ∈ e.args) => printed_con k a (by omega) (hok.2 a ha) (by
      obtain ⟨i, hi⟩ := List.mem_iff_getElem?.1 ha
      exact hb.arg hi) (by
      obtain ⟨i, hi⟩ := List.mem_iff_getElem?.1 ha
      exact hrg.arg hi))
    have hpo := hok.1
    have hrn : rng e.n := by cases hrg with | mk e h ha => exact h
    cases hb with
    | mk op kind n text table name args hb1 hb2 hb3 hb4 hb5 =>
    simp only [Ep.op, Ep.kind, Ep.n, Ep.text, Ep.table, Ep.name, Ep.args] at hpe hlen IH hrn
    have harg : argsN op = ((args.length : Int), true) := by
      have h := hpo
      simp only [partOk, Ep.op, Ep.args, Bool.and_eq_true, decide_eq_true_eq] at h
      exact Prod.ext (of_decide_eq_true h.1.2) h.1.1
    have hval : op = 0 → valOk kind n text = true := by
      intro h0
      subst h0
      simp only [partOk, Ep.op, Ep.kind, Ep.n, Ep.text, Ep.table, Ep.name, Ep.args, if_true, Bool.and_eq_true] at hpo
      exact hpo.2.1.2
    clear hok hrg hb5 hpo
    have HPE := Lib.hid hpe; clear hpe
    have hal := args_two harg
    have HARG := Lib.hid harg; clear harg
    have HLEN := Lib.hid hlen; clear hlen
    have HVAL := Lib.hid (fun h0 => literal_con kind n text (fun h2 => valOk_two (hval h0) hrn h2) hrn hb1); clear hval hrn
    simp (maxSteps := 1000000) (disch := omega) only [sh_syntax_printed, encE_eq, Ep.op, Ep.kind, Ep.n, Ep.text, Ep.table, Ep.name, Ep.args, go_sem, wrapI, wrapB, upd_is, upd_not, Nat.reduceAdd, Nat.reduceSub, Nat.reduceMul, Nat.reduceLeDiff, Nat.reduceEqDiff, Int.reduceAdd, Int.reduceSub, Int.reduceMul, Int.reduceNeg, Int.reduceLT, Int.reduceLE, Int.reduceEq, Int.reduceToNat, reduceCtorEq, reduceIte, Nat.zero_add, Nat.add_zero, *]
    intro _
    refine LOOP_listM args (fun i s σ' n' => ∃ a b lv, s = [a, b, lv, .sc (.int .i64 i)] ∧ 16 ≤ n' ∧ σ' 0 = some (.c ⟨7, [[.sc (.int .i64 op), .sc (.int .i64 kind), .sc (.int .i64 n), .s text, .s table, .s name, .tr (args.map encE)]], true, false⟩) ∧
        ((i = 0 ∧ lv = .em) ∨ ∃ i1, i1 < n' ∧ 0 < i1 ∧ lv = .ow i1 1 0 i ∧ σ' i1 = some (.c ⟨1, (args.take i).map fun a => [.s (printF a)], true, true⟩)))
      (.refl ⟨_, _, _, rfl, by omega, ?_, .inl ⟨rfl, rfl⟩⟩) ?_ ?_
    · simp (disch := omega) only [upd_is]
    · rintro i x K s σ n2 hx hi hi' hn ⟨a, b, lv, rfl, hn2, h0, hlv⟩ hK
      have HK := Lib.hid hK; clear hK
      have HC := Lib.hid (IH.out x (List.mem_of_getElem? hx))
      have ht : ((args.take (i + 1)).map fun a => [AV.s (printF a)]) = ((args.take i).map fun a => [AV.s (printF a)]) ++ [[.s (printF x)]] := by rw [List.take_add_one, hx, List.map_append]; rfl
      have HT := Lib.hid ht; clear ht
      rcases hlv with ⟨rfl, rfl⟩ | ⟨i1, hl1, hg1, rfl, hs1⟩
      · simp (maxSteps := 1000000) (disch := omega) only [lb_syntax_printed5, go_sem, wrapI, wrapB, upd_is, upd_not, Nat.reduceAdd, Nat.reduceSub, Nat.reduceMul, Nat.reduceLeDiff, Nat.reduceEqDiff, Int.reduceAdd, Int.reduceSub, Int.reduceMul, Int.reduceNeg, Int.reduceLT, Int.reduceLE, Int.reduceEq, Int.reduceToNat, reduceCtorEq, reduceIte, Nat.zero_add, Nat.add_zero, *]
        refine CALL_con0 HC.out (by simp only [List.append_nil, brwL_cons, brwL_nil, brw_ag, encE_brw, Option.map_some]) ?_
        simp (maxSteps := 1000000) (disch := omega) only [go_sem, wrapI, wrapB, upd_is, upd_not, Nat.reduceAdd, Nat.reduceSub, Nat.reduceMul, Nat.reduceLeDiff, Nat.reduceEqDiff, Int.reduceAdd, Int.reduceSub, Int.reduceMul, Int.reduceNeg, Int.reduceLT, Int.reduceLE, Int.reduceEq, Int.reduceToNat, reduceCtorEq, reduceIte, Nat.zero_add, Nat.add_zero, *]
        refine HK.out _ _ _ (.refl ⟨_, _, .ow (n2 + 16 + 16 + 16) 1 0 (0 + 1), rfl, by omega, ?_, .inr ⟨n2 + 16 + 16 + 16, by omega, by omega, rfl, ?_⟩⟩)
        · simp (disch := omega) only [upd_not]; exact h0
        · rw [HT.out]; simp (disch := omega) only [upd_not, upd_is]; rfl
      · have hl : (List.take i args).length = i := by rw [List.length_take]; omega
        have c1 : (i + 1) * 16 ≤ 140737488355328 := by omega
        have c2 : ¬ i1 = n2 + 16 + 16 + 16 := by omega
        have c3 : ¬ i1 = n2 + 16 + 16 := by omega
        simp (maxSteps := 1000000) (disch := omega) only [lb_syntax_printed5, go_sem, wrapI, wrapB, upd_is, upd_not, Nat.reduceAdd, Nat.reduceSub, Nat.reduceMul, Nat.reduceLeDiff, Nat.reduceEqDiff, Int.reduceAdd, Int.reduceSub, Int.reduceMul, Int.reduceNeg, Int.reduceLT, Int.reduceLE, Int.reduceEq, Int.reduceToNat, reduceCtorEq, reduceIte, Nat.zero_add, Nat.add_zero, *]
        refine CALL_con0 HC.out (by simp only [List.append_nil, brwL_cons, brwL_nil, brw_ag, encE_brw, Option.map_some]) ?_
        simp (maxSteps := 1000000) (disch := omega) only [go_sem, wrapI, wrapB, upd_is, upd_not, Nat.reduceAdd, Nat.reduceSub, Nat.reduceMul, Nat.reduceLeDiff, Nat.reduceEqDiff, Int.reduceAdd, Int.reduceSub, Int.reduceMul, Int.reduceNeg, Int.reduceLT, Int.reduceLE, Int.reduceEq, Int.reduceToNat, reduceCtorEq, reduceIte, Nat.zero_add, Nat.add_zero, *]
        refine HK.out _ _ _ (.refl ⟨_, _, .ow (n2 + 16 + 16 + 16) 1 0 (i + 1), rfl, by omega, ?_, .inr ⟨n2 + 16 + 16 + 16, by omega, by omega, rfl, ?_⟩⟩)
        · simp (disch := omega) only [upd_not]; exact h0
        · rw [HT.out]; simp (disch := omega) only [upd_not, upd_is]
    · rintro K s σ n2 hn ⟨a, b, lv, rfl, hn2, h0, hlv⟩
      rw [List.take_length] at hlv
      have c1 : ((1 : Nat) : Int) = 1 := rfl
      have c2 : ((2 : Nat) : Int) = 2 := rfl
      have c4 : ((4 : Nat) : Int) = 4 := rfl
      have c12 : ((12 : Nat) : Int) = 12 := rfl
      rw [lb_syntax_printed5]
      simp only [List.getD_cons_succ, List.getD_cons_zero]
      rw [bindP_ltI, COND_no (Int.lt_irrefl _)]
      rw [show aFad 0 (.rf 0 7 0 0) = some (.rf 0 7 0 0) from rfl, bindP_some]
      rw [show aLd σ none (.rf 0 7 0 0) = some (.sc (.int .i64 op)) from by simp only [aLd, h0]; rfl, bindP_some]
      rcases args with _ | ⟨x, _ | ⟨y, _ | ⟨z, r⟩⟩⟩
      · have ho : op = 0 ∨ op = 1 ∨ op = 18 := by
          have h := HARG.out
          unfold argsN at h
          split at h
          · assumption
          · split at h <;> simp at h
        clear hlv HARG
        rcases ho with rfl | rfl | rfl
        · have HV := Lib.hid (HVAL.out rfl); clear HVAL
          rw [bindP_eqI, COND_yes rfl]
          simp (maxSteps := 1000000) (disch := omega) only [go_sem, wrapI, wrapB, upd_is, upd_not, Nat.reduceAdd, Nat.reduceSub, Nat.reduceMul, Nat.reduceLeDiff, Nat.reduceEqDiff, Int.reduceAdd, Int.reduceSub, Int.reduceMul, Int.reduceNeg, Int.reduceLT, Int.reduceLE, Int.reduceEq, Int.reduceToNat, reduceCtorEq, reduceIte, Nat.zero_add, Nat.add_zero, *]
          refine CALL_con0 HV.out (by simp only [List.append_nil, brwL_cons, brwL_nil, brw_ag, brw_s, brw_sc, Option.map_some]) ?_
          simp (maxSteps := 1000000) (disch := omega) only [go_sem, wrapI, wrapB, upd_is, upd_not, Nat.reduceAdd, Nat.reduceSub, Nat.reduceMul, Nat.reduceLeDiff, Nat.reduceEqDiff, Int.reduceAdd, Int.reduceSub, Int.reduceMul, Int.reduceNeg, Int.reduceLT, Int.reduceLE, Int.reduceEq, Int.reduceToNat, reduceCtorEq, reduceIte, Nat.zero_add, Nat.add_zero, *]
          rw [← HR.out]; exact RC_ret rfl (by rw [HPE.out]; rfl)
        · have HTr := Lib.hid (trim_con (table ++ [46] ++ name) [46] (by simp; omega)); clear HVAL
          rw [bindP_eqI, COND_no (by omega)]
          rw [bindP_eqI, COND_yes rfl]
          simp (maxSteps := 1000000) (disch := omega) only [go_sem, wrapI, wrapB, upd_is, upd_not, Nat.reduceAdd, Nat.reduceSub, Nat.reduceMul, Nat.reduceLeDiff, Nat.reduceEqDiff, Int.reduceAdd, Int.reduceSub, Int.reduceMul, Int.reduceNeg, Int.reduceLT, Int.reduceLE, Int.reduceEq, Int.reduceToNat, reduceCtorEq, reduceIte, Nat.zero_add, Nat.add_zero, *]
          rw [bindP_add (by simp only [List.length_cons, List.length_nil]; omega)]
          rw [bindP_add (by simp only [List.length_append, List.length_cons, List.length_nil]; omega)]
          refine CALL_con0 HTr.out rfl ?_
          simp (maxSteps := 1000000) (disch := omega) only [go_sem, wrapI, wrapB, upd_is, upd_not, Nat.reduceAdd, Nat.reduceSub, Nat.reduceMul, Nat.reduceLeDiff, Nat.reduceEqDiff, Int.reduceAdd, Int.reduceSub, Int.reduceMul, Int.reduceNeg, Int.reduceLT, Int.reduceLE, Int.reduceEq, Int.reduceToNat, reduceCtorEq, reduceIte, Nat.zero_add, Nat.add_zero, *]
          rw [← HR.out]; exact RC_ret rfl (by rw [HPE.out]; rfl)
        · clear HVAL
          rw [bindP_eqI, COND_no (by omega)]
          rw [bindP_eqI, COND_no (by omega)]
          rw [bindP_eqI, COND_no (by omega)]
          rw [bindP_eqI, COND_no (by omega)]
          rw [bindP_eqI, COND_no (by omega)]
          rw [bindP_eqI, COND_no (by omega)]
          rw [bindP_eqI, COND_yes rfl]
          rw [← HR.out]; exact RC_ret rfl (by rw [HPE.out]; rfl)
      · have ho : op = 2 ∨ op = 3 ∨ op = 16 ∨ op = 17 ∨ op = 19 ∨ op = 20 ∨ op = 21 ∨ op = 22 := by
          have h := HARG.out
          unfold argsN at h
          split at h
          · simp at h
          · split at h
            · assumption
            · simp at h
        clear HARG HVAL
        obtain ⟨i1, hl1, hg1, rfl, hs1⟩ : ∃ i1, i1 < n2 ∧ 0 < i1 ∧ lv = .ow i1 1 0 1 ∧ σ i1 = some (.c ⟨1, [[.s (printF x)]], true, true⟩) := by
          rcases hlv with ⟨h, _⟩ | h
          · simp at h
          · exact h
        have hx := HLEN.out x (by simp)
        clear HLEN hlv
        rcases ho with rfl | rfl | rfl | rfl | rfl | rfl | rfl | rfl
        · have HP := Lib.hid (HPE.out); clear HPE
          rw [bindP_eqI, COND_no (by omega)]
          rw [bindP_eqI, COND_no (by omega)]
          rw [bindP_eqI, COND_yes rfl]
          simp (maxSteps := 1000000) (disch := omega) only [go_sem, wrapI, wrapB, upd_is, upd_not, Nat.reduceAdd, Nat.reduceSub, Nat.reduceMul, Nat.reduceLeDiff, Nat.reduceEqDiff, Int.reduceAdd, Int.reduceSub, Int.reduceMul, Int.reduceNeg, Int.reduceLT, Int.reduceLE, Int.reduceEq, Int.reduceToNat, reduceCtorEq, reduceIte, Nat.zero_add, Nat.add_zero, *]
          rw [bindP_add (by simp only [List.length_cons, List.length_nil]; omega)]
          rw [bindP_add (by simp only [List.length_append, List.length_cons, List.length_nil]; omega)]
          rw [← HR.out]; exact RC_ret rfl (by rw [HP.out]; rfl)
        · have HP := Lib.hid (HPE.out); clear HPE
          rw [bindP_eqI, COND_no (by omega)]
          rw [bindP_eqI, COND_no (by omega)]
          rw [bindP_eqI, COND_no (by omega)]
          rw [bindP_eqI, COND_yes rfl]
          simp (maxSteps := 1000000) (disch := omega) only [go_sem, wrapI, wrapB, upd_is, upd_not, Nat.reduceAdd, Nat.reduceSub, Nat.reduceMul, Nat.reduceLeDiff, Nat.reduceEqDiff, Int.reduceAdd, Int.reduceSub, Int.reduceMul, Int.reduceNeg, Int.reduceLT, Int.reduceLE, Int.reduceEq, Int.reduceToNat, reduceCtorEq, reduceIte, Nat.zero_add, Nat.add_zero, *]
          rw [bindP_add (by simp only [List.length_cons, List.length_nil]; omega)]
          rw [bindP_add (by simp only [List.length_append, List.length_cons, List.length_nil]; omega)]
          rw [← HR.out]; exact RC_ret rfl (by rw [HP.out]; rfl)
        · have HP := Lib.hid (HPE.out); clear HPE
          rw [bindP_eqI, COND_no (by omega)]
          rw [bindP_eqI, COND_no (by omega)]
          rw [bindP_eqI, COND_no (by omega)]
          rw [bindP_eqI, COND_no (by omega)]
          rw [bindP_eqI, COND_yes rfl]
          simp (maxSteps := 1000000) (disch := omega) only [go_sem, wrapI, wrapB, upd_is, upd_not, Nat.reduceAdd, Nat.reduceSub, Nat.reduceMul, Nat.reduceLeDiff, Nat.reduceEqDiff, Int.reduceAdd, Int.reduceSub, Int.reduceMul, Int.reduceNeg, Int.reduceLT, Int.reduceLE, Int.reduceEq, Int.reduceToNat, reduceCtorEq, reduceIte, Nat.zero_add, Nat.add_zero, *]
          rw [bindP_add (by simp only [List.length_cons, List.length_nil]; omega)]
          rw [bindP_add (by simp only [List.length_append, List.length_cons, List.length_nil]; omega)]
          rw [← HR.out]; exact RC_ret rfl (by rw [HP.out]; rfl)
        · have HP := Lib.hid (HPE.out); clear HPE
          rw [bindP_eqI, COND_no (by omega)]
          rw [bindP_eqI, COND_no (by omega)]
          rw [bindP_eqI, COND_no (by omega)]
          rw [bindP_eqI, COND_no (by omega)]
          rw [bindP_eqI, COND_no (by omega)]
          rw [bindP_eqI, COND_yes rfl]
          simp (maxSteps := 1000000) (disch := omega) only [go_sem, wrapI, wrapB, upd_is, upd_not, Nat.reduceAdd, Nat.reduceSub, Nat.reduceMul, Nat.reduceLeDiff, Nat.reduceEqDiff, Int.reduceAdd, Int.reduceSub, Int.reduceMul, Int.reduceNeg, Int.reduceLT, Int.reduceLE, Int.reduceEq, Int.reduceToNat, reduceCtorEq, reduceIte, Nat.zero_add, Nat.add_zero, *]
          rw [bindP_add (by simp only [List.length_cons, List.length_nil]; omega)]
          rw [bindP_add (by simp only [List.length_append, List.length_cons, List.length_nil]; omega)]
          rw [← HR.out]; exact RC_ret rfl (by rw [HP.out]; rfl)
        · have HP := Lib.hid (HPE.out); clear HPE
          rw [bindP_eqI, COND_no (by omega)]
          rw [bindP_eqI, COND_no (by omega)]
          rw [bindP_eqI, COND_no (by omega)]
          rw [bindP_eqI, COND_no (by omega)]
          rw [bindP_eqI, COND_no (by omega)]
          rw [bindP_eqI, COND_no (by omega)]
          rw [bindP_eqI, COND_no (by omega)]
          rw [JOIN_eq]
          rw [bindP_eqI, COND_yes rfl]
          rw [jk_syntax_printed4]
          simp only [List.getD_cons_zero, List.getD_cons_succ]
          rw [COND_yes (by trivial)]
          repeat (first | rw [bindP_add (by simp only [List.length_append, List.length_cons, List.length_nil]; omega)] | simp (maxSteps := 1000000) (disch := omega) only [c4, go_sem, wrapI, wrapB, upd_is, upd_not, Nat.reduceAdd, Nat.reduceSub, Nat.reduceMul, Nat.reduceLeDiff, Nat.reduceEqDiff, Int.reduceAdd, Int.reduceSub, Int.reduceMul, Int.reduceNeg, Int.reduceLT, Int.reduceLE, Int.reduceEq, Int.reduceToNat, reduceCtorEq, reduceIte, Nat.zero_add, Nat.add_zero, *])
          refine fun n_ hn_ => ?_
          rw [← HR.out]; exact RC_ret rfl (by rw [HP.out]; rfl)
        · have HP := Lib.hid (HPE.out); clear HPE
          rw [bindP_eqI, COND_no (by omega)]
          rw [bindP_eqI, COND_no (by omega)]
          rw [bindP_eqI, COND_no (by omega)]
          rw [bindP_eqI, COND_no (by omega)]
          rw [bindP_eqI, COND_no (by omega)]
          rw [bindP_eqI, COND_no (by omega)]
          rw [bindP_eqI, COND_no (by omega)]
          rw [JOIN_eq]
          rw [bindP_eqI, COND_no (by omega)]
          rw [bindP_eqI, COND_yes rfl]
          rw [jk_syntax_printed4]
          simp only [List.getD_cons_zero, List.getD_cons_succ]
          rw [COND_yes (by trivial)]
          repeat (first | rw [bindP_add (by simp only [List.length_append, List.length_cons, List.length_nil]; omega)] | simp (maxSteps := 1000000) (disch := omega) only [c4, go_sem, wrapI, wrapB, upd_is, upd_not, Nat.reduceAdd, Nat.reduceSub, Nat.reduceMul, Nat.reduceLeDiff, Nat.reduceEqDiff, Int.reduceAdd, Int.reduceSub, Int.reduceMul, Int.reduceNeg, Int.reduceLT, Int.reduceLE, Int.reduceEq, Int.reduceToNat, reduceCtorEq, reduceIte, Nat.zero_add, Nat.add_zero, *])
          refine fun n_ hn_ => ?_
          rw [← HR.out]; exact RC_ret rfl (by rw [HP.out]; rfl)
        · have HP := Lib.hid (HPE.out); clear HPE
          rw [bindP_eqI, COND_no (by omega)]
          rw [bindP_eqI, COND_no (by omega)]
          rw [bindP_eqI, COND_no (by omega)]
          rw [bindP_eqI, COND_no (by omega)]
          rw [bindP_eqI, COND_no (by omega)]
          rw [bindP_eqI, COND_no (by omega)]
          rw [bindP_eqI, COND_no (by omega)]
          rw [JOIN_eq]
          rw [bindP_eqI, COND_no (by omega)]
          rw [bindP_eqI, COND_no (by omega)]
          rw [bindP_eqI, COND_yes rfl]
          rw [jk_syntax_printed4]
          simp only [List.getD_cons_zero, List.getD_cons_succ]
          rw [COND_yes (by trivial)]
          repeat (first | rw [bindP_add (by simp only [List.length_append, List.length_cons, List.length_nil]; omega)] | simp (maxSteps := 1000000) (disch := omega) only [c4, go_sem, wrapI, wrapB, upd_is, upd_not, Nat.reduceAdd, Nat.reduceSub, Nat.reduceMul, Nat.reduceLeDiff, Nat.reduceEqDiff, Int.reduceAdd, Int.reduceSub, Int.reduceMul, Int.reduceNeg, Int.reduceLT, Int.reduceLE, Int.reduceEq, Int.reduceToNat, reduceCtorEq, reduceIte, Nat.zero_add, Nat.add_zero, *])
          refine fun n_ hn_ => ?_
          rw [← HR.out]; exact RC_ret rfl (by rw [HP.out]; rfl)
        · have HP := Lib.hid (HPE.out); clear HPE
          rw [bindP_eqI, COND_no (by omega)]
          rw [bindP_eqI, COND_no (by omega)]
          rw [bindP_eqI, COND_no (by omega)]
          rw [bindP_eqI, COND_no (by omega)]
          rw [bindP_eqI, COND_no (by omega)]
          rw [bindP_eqI, COND_no (by omega)]
          rw [bindP_eqI, COND_no (by omega)]
          rw [JOIN_eq]
          rw [bindP_eqI, COND_no (by omega)]
          rw [bindP_eqI, COND_no (by omega)]
          rw [bindP_eqI, COND_no (by omega)]
          rw [bindP_eqI]
          rw [jk_syntax_printed4]
          simp only [List.getD_cons_zero, List.getD_cons_succ]
          rw [COND_yes (by trivial)]
          repeat (first | rw [bindP_add (by simp only [List.length_append, List.length_cons, List.length_nil]; omega)] | simp (maxSteps := 1000000) (disch := omega) only [c4, go_sem, wrapI, wrapB, upd_is, upd_not, Nat.reduceAdd, Nat.reduceSub, Nat.reduceMul, Nat.reduceLeDiff, Nat.reduceEqDiff, Int.reduceAdd, Int.reduceSub, Int.reduceMul, Int.reduceNeg, Int.reduceLT, Int.reduceLE, Int.reduceEq, Int.reduceToNat, reduceCtorEq, reduceIte, Nat.zero_add, Nat.add_zero, *])
          refine fun n_ hn_ => ?_
          rw [← HR.out]; exact RC_ret rfl (by rw [HP.out]; rfl)
      · have ho : 4 ≤ op ∧ op < 16 := by
          have h := HARG.out
          unfold argsN at h
          split at h
          · simp at h
          · split at h
            · simp at h
            · simp only [Prod.mk.injEq, Bool.and_eq_true, decide_eq_true_eq] at h
              exact h.2
        clear HARG HVAL
        obtain ⟨i1, hl1, hg1, rfl, hs1⟩ : ∃ i1, i1 < n2 ∧ 0 < i1 ∧ lv = .ow i1 1 0 2 ∧ σ i1 = some (.c ⟨1, [[.s (printF x)], [.s (printF y)]], true, true⟩) := by
          rcases hlv with ⟨h, _⟩ | h
          · simp at h
          · exact h
        have hx := HLEN.out x (by simp)
        have hy := HLEN.out y (by simp)
        clear HLEN hlv
        rw [bindP_eqI, COND_no (by omega)]
        rw [bindP_eqI, COND_no (by omega)]
        rw [bindP_eqI, COND_no (by omega)]
        rw [bindP_eqI, COND_no (by omega)]
        rw [bindP_eqI, COND_no (by omega)]
        rw [bindP_eqI, COND_no (by omega)]
        rw [bindP_eqI, COND_no (by omega)]
        rw [JOIN_eq]
        rw [bindP_eqI, COND_no (by omega)]
        rw [bindP_eqI, COND_no (by omega)]
        rw [bindP_eqI, COND_no (by omega)]
        rw [bindP_eqI, jk_syntax_printed4]
        simp only [List.getD_cons_zero, List.getD_cons_succ]
        rw [COND_no (by omega)]
        change bindP (some (AV.ag sgA)) _
        rw [bindP_some]
        change bindS (some (AV.rf n2 12 0 0, [(n2, some (Ob.c ⟨12, [zA], true, false⟩))])) σ n2 _
        have g1 : ¬ i1 = n2 := by omega
        rcases (show op = 4 ∨ op = 5 ∨ op = 6 ∨ op = 7 ∨ op = 8 ∨ op = 9 ∨ op = 10 ∨ op = 11 ∨ op = 12 ∨ op = 13 ∨ op = 14 ∨ op = 15 by omega) with rfl | rfl | rfl | rfl | rfl | rfl | rfl | rfl | rfl | rfl | rfl | rfl
        all_goals
          clear ho
          repeat (first | rw [bindP_add (by simp only [List.length_append, List.length_cons, List.length_nil]; omega)] | simp (maxSteps := 1000000) (disch := omega) only [c12, c2, sgA_len, zA_len, sgA_leaf, zA_drop, sgA_cells, sgA_0, sgA_1, sgA_2, sgA_3, sgA_4, sgA_5, sgA_6, sgA_7, sgA_8, sgA_9, sgA_10, sgA_11, go_sem, wrapI, wrapB, upd_is, upd_not, Nat.reduceAdd, Nat.reduceSub, Nat.reduceMul, Nat.reduceLeDiff, Nat.reduceEqDiff, Int.reduceAdd, Int.reduceSub, Int.reduceMul, Int.reduceNeg, Int.reduceLT, Int.reduceLE, Int.reduceEq, Int.reduceToNat, reduceCtorEq, reduceIte, Nat.zero_add, Nat.add_zero, *])
          refine fun n_ hn_ => ?_
          rw [← HR.out]; exact RC_ret rfl (by rw [HPE.out]; exact congrArg _ (by simp [putF, signF]))
      · simp only [List.length_cons] at hal; omega
end Go.Proofs.YtodoejfkjimeaaaDoor
