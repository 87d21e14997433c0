/- Packed by a program of this repo: Qj. -/
import Derived.Test.YtlhnncmflnjinaaKCQk
import Derived.Test.YtlhnncmflnjinaaKCGbT
set_option linter.unusedSimpArgs false
set_option linter.unusedVariables false
set_option maxRecDepth 100000
namespace Go.Proofs.Ytlhnncmflnjinaa
open Go Go.RowKit Am
attribute [-go_sem] guardP_if guardK_if guardD_if COND_bool
attribute [local go_sem low] guardP_if guardK_if guardD_if COND_bool

def stRes (p : List Tb × Int) : AEnd := .ret (.tp [.ag [.tr (p.1.map encT)], .sc (.int .i64 p.2)])
set_option maxHeartbeats 2000000 in
theorem create_con (ts : List Tb) (x : Sm) (ht : CBd ts) (hx : SBd x) : Con Try.prog 23 [.ag [.tr (ts.map encT)], .ag (encSm x)] (stRes (createF ts x)) := by
  refine con_of (by_catalog_Create ?_)
  generalize hR : RC _ = R
  have HR := Lib.hid hR; clear hR
  have HCk := Lib.hid (catCheck_con ts ht)
  have HSy := Lib.hid (check_con x hx)
  have HPl := Lib.hid (tplace_con ts x.table)
  have HCl := fun id => Lib.hid (catClone_con ts ht.len (fun t h => ⟨(ht.rg t h).bd.col.1, (ht.rg t h).bd.ind.1⟩) id)
  have hcols : x.columns.length ≤ 1048576 := hx.cols
  have HCC := fun id => Lib.hid (clC_con x.columns hcols id)
  have bad : ∀ (e : Int) (σ : Hp) (n : Nat), createF ts x = ([], e) → R (.ret (.tp [.ag [.em], .sc (.int .i64 e)])) σ n := by
    intro e σ n h
    rw [← HR.out, h]; exact RC_ret rfl rfl
  have BAD := Lib.hid bad; clear bad
  have hlt := ht.len
  clear ht hx
  have hx0 : (encSm x)[0]? = some (.sc (.int .i64 x.kind)) := rfl
  have hx1 : (encSm x)[1]? = some (.s x.table) := rfl
  have hx2 : (encSm x)[2]? = some (.tr (x.columns.map encC)) := rfl
  have hx3 : (encSm x)[3]? = some (.s x.key) := rfl
  simp (maxSteps := 1000000) (disch := omega) only [sh_catalog_Create, go_sem, wrapI, wrapB, upd_is, upd_not, Nat.reduceAdd, Nat.reduceSub, Nat.reduceMul, Nat.reduceLeDiff, Nat.reduceEqDiff, Int.reduceAdd, Int.reduceSub, Int.reduceMul, Int.reduceNeg, Int.reduceLT, Int.reduceLE, Int.reduceEq, Int.reduceToNat, reduceCtorEq, reduceIte, Nat.zero_add, Nat.add_zero, *]
  refine CALL_con0 HCk.out rfl ?_
  by_cases h1 : catCheckF ts = 0
  · by_cases h2 : x.kind = 1
    · simp (maxSteps := 1000000) (disch := omega) only [decide_true, decide_false, go_sem, wrapI, wrapB, upd_is, upd_not, Nat.reduceAdd, Nat.reduceSub, Nat.reduceMul, Nat.reduceLeDiff, Nat.reduceEqDiff, Int.reduceAdd, Int.reduceSub, Int.reduceMul, Int.reduceNeg, Int.reduceLT, Int.reduceLE, Int.reduceEq, Int.reduceToNat, reduceCtorEq, reduceIte, Nat.zero_add, Nat.add_zero, *]
      refine CALL_con0 HSy.out rfl ?_
      by_cases h3 : checkF x = 0
      · simp (maxSteps := 1000000) (disch := omega) only [decide_true, decide_false, go_sem, wrapI, wrapB, upd_is, upd_not, Nat.reduceAdd, Nat.reduceSub, Nat.reduceMul, Nat.reduceLeDiff, Nat.reduceEqDiff, Int.reduceAdd, Int.reduceSub, Int.reduceMul, Int.reduceNeg, Int.reduceLT, Int.reduceLE, Int.reduceEq, Int.reduceToNat, reduceCtorEq, reduceIte, Nat.zero_add, Nat.add_zero, *]
        refine CALL_con0 HPl.out rfl ?_
        cases h4 : tis_ ts x.table with
        | true =>
          simp (maxSteps := 1000000) (disch := omega) only [go_sem, wrapI, wrapB, upd_is, upd_not, Nat.reduceAdd, Nat.reduceSub, Nat.reduceMul, Nat.reduceLeDiff, Nat.reduceEqDiff, Int.reduceAdd, Int.reduceSub, Int.reduceMul, Int.reduceNeg, Int.reduceLT, Int.reduceLE, Int.reduceEq, Int.reduceToNat, reduceCtorEq, reduceIte, Nat.zero_add, Nat.add_zero, *]
          exact BAD.out _ _ _ (by rw [createF, if_neg (by simp [h1]), if_neg (by simp [h2, h3]), if_pos h4])
        | false =>
          simp (maxSteps := 1000000) (disch := omega) only [go_sem, wrapI, wrapB, upd_is, upd_not, Nat.reduceAdd, Nat.reduceSub, Nat.reduceMul, Nat.reduceLeDiff, Nat.reduceEqDiff, Int.reduceAdd, Int.reduceSub, Int.reduceMul, Int.reduceNeg, Int.reduceLT, Int.reduceLE, Int.reduceEq, Int.reduceToNat, reduceCtorEq, reduceIte, Nat.zero_add, Nat.add_zero, *]
          refine callD_conW (HCC _).out (by simp) ?_
          simp (maxSteps := 1000000) (disch := omega) only [go_sem, wrapI, wrapB, upd_is, upd_not, Nat.reduceAdd, Nat.reduceSub, Nat.reduceMul, Nat.reduceLeDiff, Nat.reduceEqDiff, Int.reduceAdd, Int.reduceSub, Int.reduceMul, Int.reduceNeg, Int.reduceLT, Int.reduceLE, Int.reduceEq, Int.reduceToNat, reduceCtorEq, reduceIte, Nat.zero_add, Nat.add_zero, *]
          refine ⟨by omega, by omega, by omega, by omega, fun n_ hn_ _ => ?_⟩
          have hcr : createF ts x = if twG x.columns 0 x.columns = true then ([], 6)
              else if (colF x.columns x.key).2 ≠ 0 then ([], (colF x.columns x.key).2)
              else if (ts.length : Int) = 8 then ([], 51)
              else (ts.take (tpl_ ts x.table) ++ [⟨x.table, notNullAt x.columns (colF x.columns x.key).1, (colF x.columns x.key).1, []⟩] ++ ts.drop (tpl_ ts x.table), 0) := by
            rw [createF, if_neg (by simp [h1]), if_neg (by simp [h2, h3]), if_neg (by simp [h4])]
          have HCR := Lib.hid hcr; clear hcr h1 h2 h3 h4 HCk HSy HPl HCC
          refine LOOP_listM x.columns (fun i s σ' n' => ∃ a b c d e f, s = [a, b, c, d, e, f, .sc (.int .i64 i)] ∧ 176 ≤ n' ∧ σ' 0 = some (.c ⟨1, [[.tr (ts.map encT)]], true, false⟩) ∧ σ' 16 = some (.c ⟨14, [encSm x], true, false⟩) ∧ σ' 32 = some (.c ⟨1, [[.em]], true, false⟩) ∧
              σ' 112 = some (.c ⟨3, x.columns.map encC, true, true⟩) ∧ σ' 144 = some (.c ⟨4, [[.s x.table, .ow 112 3 0 x.columns.length, .sc (.int .i64 0), .em]], true, false⟩) ∧ twG x.columns 0 x.columns = twG x.columns i (x.columns.drop i))
            (.refl ⟨_, _, _, _, _, _, rfl, hn_, ?_, ?_, ?_, ?_, ?_, rfl⟩) ?_ ?_
          · simp (disch := omega) only [upd_not, upd_is]
          · simp (disch := omega) only [upd_not, upd_is]
          · simp (disch := omega) only [upd_not, upd_is]
          · simp (disch := omega) only [upd_not, upd_is]
          · simp (disch := omega) only [upd_not, upd_is]
          · rintro i c K s σ n hc hi hi' hn ⟨a, b, d, e, f, g, rfl, hn2, k0, k16, k32, k112, k144, htw⟩ hK
            have HK := Lib.hid hK; clear hK
            rw [drop_at hc, twG] at htw
            have HTW := Lib.hid htw; clear htw
            have HCo := Lib.hid (column_con ⟨x.table, x.columns, 0, []⟩ c.name)
            simp (maxSteps := 1000000) (disch := omega) only [lb_catalog_Create6, encC, go_sem, wrapI, wrapB, upd_is, upd_not, Nat.reduceAdd, Nat.reduceSub, Nat.reduceMul, Nat.reduceLeDiff, Nat.reduceEqDiff, Int.reduceAdd, Int.reduceSub, Int.reduceMul, Int.reduceNeg, Int.reduceLT, Int.reduceLE, Int.reduceEq, Int.reduceToNat, reduceCtorEq, reduceIte, Nat.zero_add, Nat.add_zero, *]
            refine CALL_conS (I := [112]) HCo.out ?_ rfl ?_
            · simp only [List.append_nil, brwL_cons, brwL_nil, brw_ag, brw_s, brw_sc, brw_em, Option.map_some]
              rw [brw_all (by simp (disch := omega) only [upd_not]; exact k112) (List.length_map _) (by omega)]
              rfl
            · by_cases g1 : (colF x.columns c.name).1 = (i : Int)
              · simp (maxSteps := 1000000) (disch := omega) only [decide_true, decide_false, go_sem, wrapI, wrapB, upd_is, upd_not, Nat.reduceAdd, Nat.reduceSub, Nat.reduceMul, Nat.reduceLeDiff, Nat.reduceEqDiff, Int.reduceAdd, Int.reduceSub, Int.reduceMul, Int.reduceNeg, Int.reduceLT, Int.reduceLE, Int.reduceEq, Int.reduceToNat, reduceCtorEq, reduceIte, Nat.zero_add, Nat.add_zero, *]
                refine HK.out _ _ _ (.refl ⟨_, _, _, _, _, _, rfl, by omega, ?_, ?_, ?_, ?_, ?_, ?_⟩)
                · simp (disch := omega) only [upd_not]; exact k0
                · simp (disch := omega) only [upd_not]; exact k16
                · simp (disch := omega) only [upd_not]; exact k32
                · simp (disch := omega) only [upd_not]; exact k112
                · simp (disch := omega) only [upd_not]; exact k144
                · rw [HTW.out, if_neg (by simp [g1])]
              · simp (maxSteps := 1000000) (disch := omega) only [decide_true, decide_false, go_sem, wrapI, wrapB, upd_is, upd_not, Nat.reduceAdd, Nat.reduceSub, Nat.reduceMul, Nat.reduceLeDiff, Nat.reduceEqDiff, Int.reduceAdd, Int.reduceSub, Int.reduceMul, Int.reduceNeg, Int.reduceLT, Int.reduceLE, Int.reduceEq, Int.reduceToNat, reduceCtorEq, reduceIte, Nat.zero_add, Nat.add_zero, *]
                exact BAD.out _ _ _ (by rw [HCR.out, if_pos]; rw [HTW.out, if_pos g1])
          · rintro K s σ n hn ⟨a, b, d, e, f, g, rfl, hn2, k0, k16, k32, k112, k144, htw⟩
            rw [List.drop_length, twG] at htw
            rw [if_neg (by simp [htw])] at HCR
            clear htw
            obtain ⟨k, hk⟩ : ∃ k, k = colF x.columns x.key := ⟨_, rfl⟩
            have HCo : Go.RowKit.Hid (Con Try.prog 66 [.ag (encT ⟨x.table, x.columns, 0, []⟩), .s x.key] (.ret (.tp [.sc (.int .i64 k.1), .sc (.int .i64 k.2)]))) := by rw [hk]; exact Lib.hid (column_con ⟨x.table, x.columns, 0, []⟩ x.key)
            rw [← hk] at HCR
            have hfind := fun h => colF_find (cs := x.columns) (x := x.key) h
            rw [← hk] at hfind
            clear hk
            simp (maxSteps := 1000000) (disch := omega) only [lb_catalog_Create6, Int.lt_irrefl, go_sem, wrapI, wrapB, upd_is, upd_not, Nat.reduceAdd, Nat.reduceSub, Nat.reduceMul, Nat.reduceLeDiff, Nat.reduceEqDiff, Int.reduceAdd, Int.reduceSub, Int.reduceMul, Int.reduceNeg, Int.reduceLT, Int.reduceLE, Int.reduceEq, Int.reduceToNat, reduceCtorEq, reduceIte, Nat.zero_add, Nat.add_zero, *]
            refine CALL_conS (I := [112]) HCo.out ?_ rfl ?_
            · simp only [List.append_nil, brwL_cons, brwL_nil, brw_ag, brw_s, brw_sc, brw_em, Option.map_some]
              rw [brw_all k112 (List.length_map _) (by omega)]
              rfl
            · by_cases e : k.2 = 0
              · obtain ⟨c, hc, _, hk0, hk1⟩ := hfind e
                rw [if_neg (by simp [e])] at HCR
                by_cases e8 : (ts.length : Int) = 8
                · simp (maxSteps := 1000000) (disch := omega) only [decide_true, decide_false, go_sem, wrapI, wrapB, upd_is, upd_not, Nat.reduceAdd, Nat.reduceSub, Nat.reduceMul, Nat.reduceLeDiff, Nat.reduceEqDiff, Int.reduceAdd, Int.reduceSub, Int.reduceMul, Int.reduceNeg, Int.reduceLT, Int.reduceLE, Int.reduceEq, Int.reduceToNat, reduceCtorEq, reduceIte, Nat.zero_add, Nat.add_zero, *]
                  intro _
                  exact BAD.out _ _ _ (by rw [HCR.out, if_pos e8])
                · rw [if_neg e8] at HCR
                  have hrow : (x.columns.map encC)[k.1.toNat]? = some (encC c) := by rw [List.getElem?_map, hc]; rfl
                  have hkl : k.1.toNat < x.columns.length := by omega
                  have hset : (x.columns.map encC).set k.1.toNat ((encC c).take 2 ++ [.sc (.bool true)]) = (notNullAt x.columns k.1).map encC := by
                    unfold notNullAt; rw [hc]; simp only; rw [List.map_set]; rfl
                  have hlen : ((notNullAt x.columns k.1).map encC).length = x.columns.length := by rw [List.length_map, notNull_len]
                  have HSET := Lib.hid hset; clear hset
                  clear hfind
                  simp (maxSteps := 1000000) (disch := omega) only [decide_true, decide_false, go_sem, wrapI, wrapB, upd_is, upd_not, Nat.reduceAdd, Nat.reduceSub, Nat.reduceMul, Nat.reduceLeDiff, Nat.reduceEqDiff, Int.reduceAdd, Int.reduceSub, Int.reduceMul, Int.reduceNeg, Int.reduceLT, Int.reduceLE, Int.reduceEq, Int.reduceToNat, reduceCtorEq, reduceIte, Nat.zero_add, Nat.add_zero, *]
                  intro _
                  rw [HSET.out]
                  clear HSET hrow
                  refine CALL_conW (HCl _).out (by simp) ?_
                  intro n1 hn1
                  have g1 : ¬ n = 112 := by omega
                  simp (maxSteps := 1000000) (disch := omega) only [go_sem, wrapI, wrapB, upd_is, upd_not, Nat.reduceAdd, Nat.reduceSub, Nat.reduceMul, Nat.reduceLeDiff, Nat.reduceEqDiff, Int.reduceAdd, Int.reduceSub, Int.reduceMul, Int.reduceNeg, Int.reduceLT, Int.reduceLE, Int.reduceEq, Int.reduceToNat, reduceCtorEq, reduceIte, Nat.zero_add, Nat.add_zero, *]
                  rw [List.take_of_length_le (Nat.le_of_eq hlen)]
                  have htpl : tpl_ ts x.table ≤ ts.length := bsL_le _ _ _ _ (Nat.zero_le _)
                  refine CALL_conW (ins_con (i0 := n + 16 + 16) (i1 := n1 + 16) (n := ts.length) (i := tpl_ ts x.table) (rows := ts.map encT) (r := encT ⟨x.table, notNullAt x.columns k.1, k.1, []⟩) (by kernel_rfl) ins_calls_tables (by omega) (by simp) htpl (by omega) (by omega) (by omega) (encT_leafs ts) (encT_leaf _)) ?_ ?_
                  · intro p hp
                    simp only [List.mem_cons, List.not_mem_nil, or_false] at hp
                    rcases hp with rfl | rfl
                    · simp (disch := omega) only [upd_not, upd_is]
                    · simp (disch := omega) only [upd_not, upd_is]; rfl
                  · intro n2 hn2
                    have hres : (ts.map encT).take (tpl_ ts x.table) ++ [encT ⟨x.table, notNullAt x.columns k.1, k.1, []⟩] ++ (ts.map encT).drop (tpl_ ts x.table) = (ts.take (tpl_ ts x.table) ++ [(⟨x.table, notNullAt x.columns k.1, k.1, []⟩ : Tb)] ++ ts.drop (tpl_ ts x.table)).map encT := by
                      rw [List.map_append, List.map_append, List.map_take, List.map_drop]; rfl
                    rw [hres]
                    obtain ⟨L, hL⟩ : ∃ L, L = ts.take (tpl_ ts x.table) ++ [(⟨x.table, notNullAt x.columns k.1, k.1, []⟩ : Tb)] ++ ts.drop (tpl_ ts x.table) := ⟨_, rfl⟩
                    have hLl : (L.map encT).length = ts.length + 1 := by rw [hL]; simp; omega
                    rw [← hL] at HCR ⊢
                    clear hL hres
                    simp (maxSteps := 1000000) (disch := omega) only [go_sem, wrapI, wrapB, upd_is, upd_not, Nat.reduceAdd, Nat.reduceSub, Nat.reduceMul, Nat.reduceLeDiff, Nat.reduceEqDiff, Int.reduceAdd, Int.reduceSub, Int.reduceMul, Int.reduceNeg, Int.reduceLT, Int.reduceLE, Int.reduceEq, Int.reduceToNat, reduceCtorEq, reduceIte, Nat.zero_add, Nat.add_zero, *]
                    rw [← HR.out, HCR.out]
                    refine RC_ret (I := [n1 + 16 + 16]) ?_ rfl
                    simp only [brw_tp, brw_ag, brwL_cons, brwL_nil, brw_sc]
                    rw [brw_all (rows := L.map encT) (w := true) (by simp (disch := omega) only [upd_not, upd_is]) hLl (by omega)]
                    rfl
              · simp (maxSteps := 1000000) (disch := omega) only [decide_true, decide_false, go_sem, wrapI, wrapB, upd_is, upd_not, Nat.reduceAdd, Nat.reduceSub, Nat.reduceMul, Nat.reduceLeDiff, Nat.reduceEqDiff, Int.reduceAdd, Int.reduceSub, Int.reduceMul, Int.reduceNeg, Int.reduceLT, Int.reduceLE, Int.reduceEq, Int.reduceToNat, reduceCtorEq, reduceIte, Nat.zero_add, Nat.add_zero, *]
                exact BAD.out _ _ _ (by rw [HCR.out, if_pos e])
      · simp (maxSteps := 1000000) (disch := omega) only [decide_true, decide_false, go_sem, wrapI, wrapB, upd_is, upd_not, Nat.reduceAdd, Nat.reduceSub, Nat.reduceMul, Nat.reduceLeDiff, Nat.reduceEqDiff, Int.reduceAdd, Int.reduceSub, Int.reduceMul, Int.reduceNeg, Int.reduceLT, Int.reduceLE, Int.reduceEq, Int.reduceToNat, reduceCtorEq, reduceIte, Nat.zero_add, Nat.add_zero, *]
        exact BAD.out _ _ _ (by rw [createF, if_neg (by simp [h1]), if_pos (by simp [h3])])
    · simp (maxSteps := 1000000) (disch := omega) only [decide_true, decide_false, go_sem, wrapI, wrapB, upd_is, upd_not, Nat.reduceAdd, Nat.reduceSub, Nat.reduceMul, Nat.reduceLeDiff, Nat.reduceEqDiff, Int.reduceAdd, Int.reduceSub, Int.reduceMul, Int.reduceNeg, Int.reduceLT, Int.reduceLE, Int.reduceEq, Int.reduceToNat, reduceCtorEq, reduceIte, Nat.zero_add, Nat.add_zero, *]
      exact BAD.out _ _ _ (by rw [createF, if_neg (by simp [h1]), if_pos (by simp [h2])])
  · simp (maxSteps := 1000000) (disch := omega) only [decide_true, decide_false, go_sem, wrapI, wrapB, upd_is, upd_not, Nat.reduceAdd, Nat.reduceSub, Nat.reduceMul, Nat.reduceLeDiff, Nat.reduceEqDiff, Int.reduceAdd, Int.reduceSub, Int.reduceMul, Int.reduceNeg, Int.reduceLT, Int.reduceLE, Int.reduceEq, Int.reduceToNat, reduceCtorEq, reduceIte, Nat.zero_add, Nat.add_zero, *]
    exact BAD.out _ _ _ (by rw [createF, if_pos h1])
end Go.Proofs.Ytlhnncmflnjinaa
