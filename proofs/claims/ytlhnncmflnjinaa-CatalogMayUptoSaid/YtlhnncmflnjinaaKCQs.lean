/- Packed by a program of this repo: Qs. -/
import Derived.Test.YtlhnncmflnjinaaKCQr
set_option linter.unusedSimpArgs false
set_option linter.unusedVariables false
set_option maxRecDepth 100000
namespace Go.Proofs.Ytlhnncmflnjinaa
open Go Go.RowKit Am
attribute [-go_sem] guardP_if guardK_if guardD_if COND_bool
attribute [local go_sem low] guardP_if guardK_if guardD_if COND_bool

set_option maxHeartbeats 2000000 in
theorem drop_con (ts : List Tb) (x : Tx) (ht : CBd ts) : Con Try.prog 46 [.ag [.tr (ts.map encT)], .s x] (stRes (dropF ts x)) := by
  refine con_of (by_catalog_Drop ?_)
  generalize hR : RC _ = R
  have HR := Lib.hid hR; clear hR
  have HF := Lib.hid (find_con ts ht x)
  have HCl := fun id => Lib.hid (catClone_con ts ht.len (fun t h => ⟨(ht.rg t h).bd.col.1, (ht.rg t h).bd.ind.1⟩) id)
  have hlt := ht.len
  clear ht
  have hd : dropF ts x = if (findF ts x).2 ≠ 0 then ([], (findF ts x).2) else (ts.take (findF ts x).1.toNat ++ ts.drop ((findF ts x).1.toNat + 1), 0) := rfl
  have hf : (findF ts x).2 = 0 → ∃ p : Nat, (findF ts x).1 = (p : Int) ∧ p < ts.length := by
    intro h
    unfold findF at h ⊢
    split at h
    · rename_i g; exact absurd h g
    · rename_i g
      rw [if_neg g]
      split at h
      · simp at h
      · rename_i g2
        rw [if_neg g2]
        refine ⟨tpl_ ts x, rfl, ?_⟩
        have g3 : tis_ ts x = true := by simpa using g2
        unfold tis_ at g3
        simp only [Bool.and_eq_true, decide_eq_true_eq] at g3
        exact g3.1
  have HD := Lib.hid hd; clear hd
  generalize findF ts x = q at *
  simp (maxSteps := 1000000) (disch := omega) only [sh_catalog_Drop, go_sem, wrapI, wrapB, upd_is, upd_not, Nat.reduceAdd, Nat.reduceSub, Nat.reduceMul, Nat.reduceLeDiff, Nat.reduceEqDiff, Int.reduceAdd, Int.reduceSub, Int.reduceMul, Int.reduceNeg, Int.reduceLT, Int.reduceLE, Int.reduceEq, Int.reduceToNat, reduceCtorEq, reduceIte, Nat.zero_add, Nat.add_zero, *]
  refine CALL_con0 HF.out (by simp only [List.append_nil, brwL_cons, brwL_nil, brw_ag, brw_tr, brw_s, Option.map_some]) ?_
  by_cases e : q.2 = 0
  · obtain ⟨p, hp, hpl⟩ := hf e
    have HD' := HD.out
    rw [if_neg (by simp [e]), hp, Int.toNat_natCast] at HD'
    clear HD hf HF
    have HD := Lib.hid HD'; clear HD'
    simp (maxSteps := 1000000) (disch := omega) only [decide_true, decide_false, go_sem, wrapI, wrapB, upd_is, upd_not, Nat.reduceAdd, Nat.reduceSub, Nat.reduceMul, Nat.reduceLeDiff, Nat.reduceEqDiff, Int.reduceAdd, Int.reduceSub, Int.reduceMul, Int.reduceNeg, Int.reduceLT, Int.reduceLE, Int.reduceEq, Int.reduceToNat, reduceCtorEq, reduceIte, Nat.zero_add, Nat.add_zero, *]
    refine CALL_conW (HCl _).out (by simp) ?_
    intro n1 hn1
    simp (maxSteps := 1000000) (disch := omega) only [go_sem, wrapI, wrapB, upd_is, upd_not, Nat.reduceAdd, Nat.reduceSub, Nat.reduceMul, Nat.reduceLeDiff, Nat.reduceEqDiff, Int.reduceAdd, Int.reduceSub, Int.reduceMul, Int.reduceNeg, Int.reduceLT, Int.reduceLE, Int.reduceEq, Int.reduceToNat, reduceCtorEq, reduceIte, Nat.zero_add, Nat.add_zero, *]
    have hj : ((p : Int) + 1) = ((p + 1 : Nat) : Int) := by omega
    rw [hj]
    refine CALL_conW (del_con (i0 := 32) (n := ts.length) (i := p) (j := p + 1) (rows := ts.map encT) (by kernel_rfl) del_calls_tables (by simp) (by omega) (by omega) (by omega) (encT_leafs ts)) ?_ ?_
    · intro q hq
      simp only [List.mem_singleton] at hq
      subst hq
      simp (disch := omega) only [upd_not, upd_is]
    · intro n2 hn2
      have hres : (ts.map encT).take p ++ (ts.map encT).drop (p + 1) = (ts.take p ++ ts.drop (p + 1)).map encT := by
        rw [List.map_append, List.map_take, List.map_drop]
      have hL : (ts.take p ++ ts.drop (p + 1)).length = ts.length - (p + 1 - p) := by simp; omega
      rw [hres]
      clear hres hj
      generalize ts.take p ++ ts.drop (p + 1) = L at *
      generalize ts.length - (p + 1 - p) = m at *
      simp (maxSteps := 1000000) (disch := omega) only [go_sem, wrapI, wrapB, upd_is, upd_not, Nat.reduceAdd, Nat.reduceSub, Nat.reduceMul, Nat.reduceLeDiff, Nat.reduceEqDiff, Int.reduceAdd, Int.reduceSub, Int.reduceMul, Int.reduceNeg, Int.reduceLT, Int.reduceLE, Int.reduceEq, Int.reduceToNat, reduceCtorEq, reduceIte, Nat.zero_add, Nat.add_zero, *]
      rw [← HR.out, HD.out]
      refine RC_ret (I := [n1 + 16]) ?_ rfl
      simp only [brw_tp, brw_ag, brwL_cons, brwL_nil, brw_sc]
      rw [brw_all (rows := L.map encT) (w := true) (by simp (disch := omega) only [upd_not, upd_is]) (by rw [List.length_map]; exact hL) (by omega)]
      rfl
  · simp (maxSteps := 1000000) (disch := omega) only [decide_true, decide_false, go_sem, wrapI, wrapB, upd_is, upd_not, Nat.reduceAdd, Nat.reduceSub, Nat.reduceMul, Nat.reduceLeDiff, Nat.reduceEqDiff, Int.reduceAdd, Int.reduceSub, Int.reduceMul, Int.reduceNeg, Int.reduceLT, Int.reduceLE, Int.reduceEq, Int.reduceToNat, reduceCtorEq, reduceIte, Nat.zero_add, Nat.add_zero, *]
    rw [← HR.out, HD.out, if_pos e]
    exact RC_ret rfl rfl
set_option maxHeartbeats 4000000 in
theorem catalogMay_con (ts : List Tb) (x y : Sm) (ht : CBd ts) (hx : SBd x) (hy : SBd y) : Con Try.prog 12 [.ag [.tr (ts.map encT)], .ag (encSm x), .ag (encSm y)] (.ret (.sc (.bool true))) := by
  refine con_of (by_law06_CatalogMay ?_)
  generalize hR : RC _ = R
  have HR := Lib.hid hR; clear hR
  have HAll := Lib.hid (all_con ts ht.len (fun t h => ⟨(ht.rg t h).bd.col.1, (ht.rg t h).bd.ind.1⟩))
  have HC := Lib.hid (create_con ts x ht hx)
  have HL := Lib.hid (create_law (ts := ts) (x := x) mk_ok)
  have HBd := Lib.hid (fun h => create_bd (ts := ts) (x := x) ht hx h)
  have HUn := Lib.hid (unlike_con ts)
  have HFts := Lib.hid (find_con ts ht x.table)
  have hx1 : (encSm x)[1]? = some (.s x.table) := rfl
  have hd1 : (encSm x).drop 1 = .s x.table :: (encSm x).drop 2 := rfl
  clear ht hx
  generalize createF ts x = p at *
  simp (maxSteps := 1000000) (disch := omega) only [sh_law06_CatalogMay, go_sem, wrapI, wrapB, upd_is, upd_not, Nat.reduceAdd, Nat.reduceSub, Nat.reduceMul, Nat.reduceLeDiff, Nat.reduceEqDiff, Int.reduceAdd, Int.reduceSub, Int.reduceMul, Int.reduceNeg, Int.reduceLT, Int.reduceLE, Int.reduceEq, Int.reduceToNat, reduceCtorEq, reduceIte, Nat.zero_add, Nat.add_zero, *]
  refine CALL_con0 alive6_con rfl ?_
  simp (maxSteps := 1000000) (disch := omega) only [go_sem, wrapI, wrapB, upd_is, upd_not, Nat.reduceAdd, Nat.reduceSub, Nat.reduceMul, Nat.reduceLeDiff, Nat.reduceEqDiff, Int.reduceAdd, Int.reduceSub, Int.reduceMul, Int.reduceNeg, Int.reduceLT, Int.reduceLE, Int.reduceEq, Int.reduceToNat, reduceCtorEq, reduceIte, Nat.zero_add, Nat.add_zero, *]
  refine callD_con0 HAll.out (by simp only [List.append_nil, brwL_cons, brwL_nil, brw_ag, brw_tr, Option.map_some]) ?_
  simp (maxSteps := 1000000) (disch := omega) only [go_sem, wrapI, wrapB, upd_is, upd_not, Nat.reduceAdd, Nat.reduceSub, Nat.reduceMul, Nat.reduceLeDiff, Nat.reduceEqDiff, Int.reduceAdd, Int.reduceSub, Int.reduceMul, Int.reduceNeg, Int.reduceLT, Int.reduceLE, Int.reduceEq, Int.reduceToNat, reduceCtorEq, reduceIte, Nat.zero_add, Nat.add_zero, *]
  refine callD_con0 HC.out (by simp only [List.append_nil, brwL_cons, brwL_nil, brw_ag, brw_tr, encSm_brw, Option.map_some]) ?_
  simp (maxSteps := 1000000) (disch := omega) only [stRes, go_sem, wrapI, wrapB, upd_is, upd_not, Nat.reduceAdd, Nat.reduceSub, Nat.reduceMul, Nat.reduceLeDiff, Nat.reduceEqDiff, Int.reduceAdd, Int.reduceSub, Int.reduceMul, Int.reduceNeg, Int.reduceLT, Int.reduceLE, Int.reduceEq, Int.reduceToNat, reduceCtorEq, reduceIte, Nat.zero_add, Nat.add_zero, *]
  refine ⟨fun q hq => by omega, fun q hq => by omega, fun n_ hn_ => ?_⟩
  refine CALL_con0 (num6_con p.2) rfl ?_
  by_cases e : p.2 = 0
  · obtain ⟨l1, l2, t, h1, h2, h3, hok, hokts, htis, _⟩ := HL.out.2 e
    have hbd := HBd.out e
    obtain ⟨d1, d2⟩ := drop_law hok
    rw [h3] at d1 d2
    rw [← h2] at d1 d2 hok
    rw [← h1] at d2
    have HF1 := Lib.hid (find_con p.1 hbd x.table)
    rw [d1] at HF1
    have HD1 := Lib.hid (drop_con p.1 x.table hbd)
    rw [d2] at HD1
    have HA := Lib.hid (add_con p.1 y hbd hy)
    have HA2 := Lib.hid (fun h => catCheck_con (addF p.1 y).1 (add_bd hbd hy h))
    have HA3 := Lib.hid (fun h => catCheck_zero.2 ((add_law (ts := p.1) (x := y) ix_ok).2 h).1)
    have HK1 := Lib.hid (catCheck_con p.1 hbd)
    rw [catCheck_zero.2 hok] at HK1
    rw [find_none hokts htis] at HFts
    have hrow : (p.1.map encT)[l1.length]? = some (encT t) := by rw [h2]; simp
    have hll : (l1.length : Int) < (p.1.length : Int) := by rw [h2]; simp; omega
    obtain ⟨E, hE⟩ : ∃ E, E = encT t := ⟨_, rfl⟩
    have ht0 : E[0]? = some (.s x.table) := by rw [hE, ← h3]; rfl
    have htl : E.length = 4 := by rw [hE]; rfl
    rw [← hE] at hrow
    clear hE
    clear HL HBd hbd hok hokts htis d1 d2 h1 h2 h3 hy
    generalize addF p.1 y = q at *
    generalize p.1 = L at *
    generalize l1.length = m at *
    simp (maxSteps := 1000000) (disch := omega) only [decide_true, decide_false, go_sem, wrapI, wrapB, upd_is, upd_not, Nat.reduceAdd, Nat.reduceSub, Nat.reduceMul, Nat.reduceLeDiff, Nat.reduceEqDiff, Int.reduceAdd, Int.reduceSub, Int.reduceMul, Int.reduceNeg, Int.reduceLT, Int.reduceLE, Int.reduceEq, Int.reduceToNat, reduceCtorEq, reduceIte, Nat.zero_add, Nat.add_zero, *]
    refine CALL_con0 HF1.out (by simp only [List.append_nil, brwL_cons, brwL_nil, brw_ag, brw_tr, brw_s, Option.map_some]) ?_
    simp (maxSteps := 1000000) (disch := omega) only [decide_true, decide_false, go_sem, wrapI, wrapB, upd_is, upd_not, Nat.reduceAdd, Nat.reduceSub, Nat.reduceMul, Nat.reduceLeDiff, Nat.reduceEqDiff, Int.reduceAdd, Int.reduceSub, Int.reduceMul, Int.reduceNeg, Int.reduceLT, Int.reduceLE, Int.reduceEq, Int.reduceToNat, reduceCtorEq, reduceIte, Nat.zero_add, Nat.add_zero, *]
    refine CALL_con0 HA.out (by simp only [List.append_nil, brwL_cons, brwL_nil, brw_ag, brw_tr, encSm_brw, Option.map_some]) ?_
    simp (maxSteps := 1000000) (disch := omega) only [stRes, go_sem, wrapI, wrapB, upd_is, upd_not, Nat.reduceAdd, Nat.reduceSub, Nat.reduceMul, Nat.reduceLeDiff, Nat.reduceEqDiff, Int.reduceAdd, Int.reduceSub, Int.reduceMul, Int.reduceNeg, Int.reduceLT, Int.reduceLE, Int.reduceEq, Int.reduceToNat, reduceCtorEq, reduceIte, Nat.zero_add, Nat.add_zero, *]
    refine CALL_con0 HD1.out (by simp only [List.append_nil, brwL_cons, brwL_nil, brw_ag, brw_tr, brw_s, Option.map_some]) ?_
    simp (maxSteps := 1000000) (disch := omega) only [stRes, go_sem, wrapI, wrapB, upd_is, upd_not, Nat.reduceAdd, Nat.reduceSub, Nat.reduceMul, Nat.reduceLeDiff, Nat.reduceEqDiff, Int.reduceAdd, Int.reduceSub, Int.reduceMul, Int.reduceNeg, Int.reduceLT, Int.reduceLE, Int.reduceEq, Int.reduceToNat, reduceCtorEq, reduceIte, Nat.zero_add, Nat.add_zero, *]
    refine CALL_con0 HFts.out (by simp only [List.append_nil, brwL_cons, brwL_nil, brw_ag, brw_tr, brw_s, Option.map_some]) ?_
    simp (maxSteps := 1000000) (disch := omega) only [go_sem, wrapI, wrapB, upd_is, upd_not, Nat.reduceAdd, Nat.reduceSub, Nat.reduceMul, Nat.reduceLeDiff, Nat.reduceEqDiff, Int.reduceAdd, Int.reduceSub, Int.reduceMul, Int.reduceNeg, Int.reduceLT, Int.reduceLE, Int.reduceEq, Int.reduceToNat, reduceCtorEq, reduceIte, Nat.zero_add, Nat.add_zero, *]
    refine CALL_con0 (num6_con q.2) rfl ?_
    by_cases e2 : q.2 = 0
    · have HA4 := Lib.hid (HA2.out e2)
      rw [HA3.out e2] at HA4
      clear HA2 HA3
      simp (maxSteps := 1000000) (disch := omega) only [decide_true, decide_false, go_sem, wrapI, wrapB, upd_is, upd_not, Nat.reduceAdd, Nat.reduceSub, Nat.reduceMul, Nat.reduceLeDiff, Nat.reduceEqDiff, Int.reduceAdd, Int.reduceSub, Int.reduceMul, Int.reduceNeg, Int.reduceLT, Int.reduceLE, Int.reduceEq, Int.reduceToNat, reduceCtorEq, reduceIte, Nat.zero_add, Nat.add_zero, *]
      refine CALL_con0 HA4.out (by simp only [List.append_nil, brwL_cons, brwL_nil, brw_ag, brw_tr, Option.map_some]) ?_
      simp (maxSteps := 1000000) (disch := omega) only [go_sem, wrapI, wrapB, upd_is, upd_not, Nat.reduceAdd, Nat.reduceSub, Nat.reduceMul, Nat.reduceLeDiff, Nat.reduceEqDiff, Int.reduceAdd, Int.reduceSub, Int.reduceMul, Int.reduceNeg, Int.reduceLT, Int.reduceLE, Int.reduceEq, Int.reduceToNat, reduceCtorEq, reduceIte, Nat.zero_add, Nat.add_zero, *]
      refine CALL_con0 (num6_con 0) rfl ?_
      simp (maxSteps := 1000000) (disch := omega) only [decide_true, decide_false, go_sem, wrapI, wrapB, upd_is, upd_not, Nat.reduceAdd, Nat.reduceSub, Nat.reduceMul, Nat.reduceLeDiff, Nat.reduceEqDiff, Int.reduceAdd, Int.reduceSub, Int.reduceMul, Int.reduceNeg, Int.reduceLT, Int.reduceLE, Int.reduceEq, Int.reduceToNat, reduceCtorEq, reduceIte, Nat.zero_add, Nat.add_zero, *]
      refine callD_con0 HK1.out (by simp only [List.append_nil, brwL_cons, brwL_nil, brw_ag, brw_tr, Option.map_some]) ?_
      simp (maxSteps := 1000000) (disch := omega) only [go_sem, wrapI, wrapB, upd_is, upd_not, Nat.reduceAdd, Nat.reduceSub, Nat.reduceMul, Nat.reduceLeDiff, Nat.reduceEqDiff, Int.reduceAdd, Int.reduceSub, Int.reduceMul, Int.reduceNeg, Int.reduceLT, Int.reduceLE, Int.reduceEq, Int.reduceToNat, reduceCtorEq, reduceIte, Nat.zero_add, Nat.add_zero, *]
      refine callD_con0 (num6_con 0) rfl ?_
      simp (maxSteps := 1000000) (disch := omega) only [decide_true, decide_false, hd1, go_sem, wrapI, wrapB, upd_is, upd_not, Nat.reduceAdd, Nat.reduceSub, Nat.reduceMul, Nat.reduceLeDiff, Nat.reduceEqDiff, Int.reduceAdd, Int.reduceSub, Int.reduceMul, Int.reduceNeg, Int.reduceLT, Int.reduceLE, Int.reduceEq, Int.reduceToNat, reduceCtorEq, reduceIte, Nat.zero_add, Nat.add_zero, *]
      refine callD_con0 (num6_con 0) rfl ?_
      simp (maxSteps := 1000000) (disch := omega) only [decide_true, decide_false, hd1, go_sem, wrapI, wrapB, upd_is, upd_not, Nat.reduceAdd, Nat.reduceSub, Nat.reduceMul, Nat.reduceLeDiff, Nat.reduceEqDiff, Int.reduceAdd, Int.reduceSub, Int.reduceMul, Int.reduceNeg, Int.reduceLT, Int.reduceLE, Int.reduceEq, Int.reduceToNat, reduceCtorEq, reduceIte, Nat.zero_add, Nat.add_zero, *]
      refine callD_con0 (num6_con 0) rfl ?_
      simp (maxSteps := 1000000) (disch := omega) only [decide_true, decide_false, hd1, go_sem, wrapI, wrapB, upd_is, upd_not, Nat.reduceAdd, Nat.reduceSub, Nat.reduceMul, Nat.reduceLeDiff, Nat.reduceEqDiff, Int.reduceAdd, Int.reduceSub, Int.reduceMul, Int.reduceNeg, Int.reduceLT, Int.reduceLE, Int.reduceEq, Int.reduceToNat, reduceCtorEq, reduceIte, Nat.zero_add, Nat.add_zero, *]
      refine callD_con0 (num6_con 93) rfl ?_
      simp (maxSteps := 1000000) (disch := omega) only [decide_true, decide_false, go_sem, wrapI, wrapB, upd_is, upd_not, Nat.reduceAdd, Nat.reduceSub, Nat.reduceMul, Nat.reduceLeDiff, Nat.reduceEqDiff, Int.reduceAdd, Int.reduceSub, Int.reduceMul, Int.reduceNeg, Int.reduceLT, Int.reduceLE, Int.reduceEq, Int.reduceToNat, reduceCtorEq, reduceIte, Nat.zero_add, Nat.add_zero, *]
      refine callD_con0 HUn.out (by simp only [List.append_nil, brwL_cons, brwL_nil, brw_ag, brw_tr, Option.map_some]) ?_
      simp (maxSteps := 1000000) (disch := omega) only [decide_true, decide_false, go_sem, wrapI, wrapB, upd_is, upd_not, Nat.reduceAdd, Nat.reduceSub, Nat.reduceMul, Nat.reduceLeDiff, Nat.reduceEqDiff, Int.reduceAdd, Int.reduceSub, Int.reduceMul, Int.reduceNeg, Int.reduceLT, Int.reduceLE, Int.reduceEq, Int.reduceToNat, reduceCtorEq, reduceIte, Nat.zero_add, Nat.add_zero, *]
      intros
      rw [← HR.out]; exact RC_ret rfl rfl
    · clear HA2 HA3
      simp (maxSteps := 1000000) (disch := omega) only [decide_true, decide_false, go_sem, wrapI, wrapB, upd_is, upd_not, Nat.reduceAdd, Nat.reduceSub, Nat.reduceMul, Nat.reduceLeDiff, Nat.reduceEqDiff, Int.reduceAdd, Int.reduceSub, Int.reduceMul, Int.reduceNeg, Int.reduceLT, Int.reduceLE, Int.reduceEq, Int.reduceToNat, reduceCtorEq, reduceIte, Nat.zero_add, Nat.add_zero, *]
      refine callD_con0 HK1.out (by simp only [List.append_nil, brwL_cons, brwL_nil, brw_ag, brw_tr, Option.map_some]) ?_
      simp (maxSteps := 1000000) (disch := omega) only [go_sem, wrapI, wrapB, upd_is, upd_not, Nat.reduceAdd, Nat.reduceSub, Nat.reduceMul, Nat.reduceLeDiff, Nat.reduceEqDiff, Int.reduceAdd, Int.reduceSub, Int.reduceMul, Int.reduceNeg, Int.reduceLT, Int.reduceLE, Int.reduceEq, Int.reduceToNat, reduceCtorEq, reduceIte, Nat.zero_add, Nat.add_zero, *]
      refine callD_con0 (num6_con 0) rfl ?_
      simp (maxSteps := 1000000) (disch := omega) only [decide_true, decide_false, hd1, go_sem, wrapI, wrapB, upd_is, upd_not, Nat.reduceAdd, Nat.reduceSub, Nat.reduceMul, Nat.reduceLeDiff, Nat.reduceEqDiff, Int.reduceAdd, Int.reduceSub, Int.reduceMul, Int.reduceNeg, Int.reduceLT, Int.reduceLE, Int.reduceEq, Int.reduceToNat, reduceCtorEq, reduceIte, Nat.zero_add, Nat.add_zero, *]
      refine callD_con0 (num6_con 0) rfl ?_
      simp (maxSteps := 1000000) (disch := omega) only [decide_true, decide_false, hd1, go_sem, wrapI, wrapB, upd_is, upd_not, Nat.reduceAdd, Nat.reduceSub, Nat.reduceMul, Nat.reduceLeDiff, Nat.reduceEqDiff, Int.reduceAdd, Int.reduceSub, Int.reduceMul, Int.reduceNeg, Int.reduceLT, Int.reduceLE, Int.reduceEq, Int.reduceToNat, reduceCtorEq, reduceIte, Nat.zero_add, Nat.add_zero, *]
      refine callD_con0 (num6_con 0) rfl ?_
      simp (maxSteps := 1000000) (disch := omega) only [decide_true, decide_false, hd1, go_sem, wrapI, wrapB, upd_is, upd_not, Nat.reduceAdd, Nat.reduceSub, Nat.reduceMul, Nat.reduceLeDiff, Nat.reduceEqDiff, Int.reduceAdd, Int.reduceSub, Int.reduceMul, Int.reduceNeg, Int.reduceLT, Int.reduceLE, Int.reduceEq, Int.reduceToNat, reduceCtorEq, reduceIte, Nat.zero_add, Nat.add_zero, *]
      refine callD_con0 (num6_con 93) rfl ?_
      simp (maxSteps := 1000000) (disch := omega) only [decide_true, decide_false, go_sem, wrapI, wrapB, upd_is, upd_not, Nat.reduceAdd, Nat.reduceSub, Nat.reduceMul, Nat.reduceLeDiff, Nat.reduceEqDiff, Int.reduceAdd, Int.reduceSub, Int.reduceMul, Int.reduceNeg, Int.reduceLT, Int.reduceLE, Int.reduceEq, Int.reduceToNat, reduceCtorEq, reduceIte, Nat.zero_add, Nat.add_zero, *]
      refine callD_con0 HUn.out (by simp only [List.append_nil, brwL_cons, brwL_nil, brw_ag, brw_tr, Option.map_some]) ?_
      simp (maxSteps := 1000000) (disch := omega) only [decide_true, decide_false, go_sem, wrapI, wrapB, upd_is, upd_not, Nat.reduceAdd, Nat.reduceSub, Nat.reduceMul, Nat.reduceLeDiff, Nat.reduceEqDiff, Int.reduceAdd, Int.reduceSub, Int.reduceMul, Int.reduceNeg, Int.reduceLT, Int.reduceLE, Int.reduceEq, Int.reduceToNat, reduceCtorEq, reduceIte, Nat.zero_add, Nat.add_zero, *]
      intros
      rw [← HR.out]; exact RC_ret rfl rfl
  · have he := HL.out.1 e
    rw [he]
    simp (maxSteps := 1000000) (disch := omega) only [decide_true, decide_false, List.map_nil, List.length_nil, go_sem, wrapI, wrapB, upd_is, upd_not, Nat.reduceAdd, Nat.reduceSub, Nat.reduceMul, Nat.reduceLeDiff, Nat.reduceEqDiff, Int.reduceAdd, Int.reduceSub, Int.reduceMul, Int.reduceNeg, Int.reduceLT, Int.reduceLE, Int.reduceEq, Int.reduceToNat, reduceCtorEq, reduceIte, Nat.zero_add, Nat.add_zero, *]
    intros
    rw [← HR.out]; exact RC_ret rfl rfl
end Go.Proofs.Ytlhnncmflnjinaa
