/- Packed by a program of this repo: Qr. -/
import Derived.Test.YtlhnncmflnjinaaKCQn
import Derived.Test.YtlhnncmflnjinaaKCQq
set_option linter.unusedSimpArgs false
set_option linter.unusedVariables false
set_option maxRecDepth 100000
namespace Go.Proofs.Ytlhnncmflnjinaa
open Go Go.RowKit Am
attribute [-go_sem] guardP_if guardK_if guardD_if COND_bool
attribute [local go_sem low] guardP_if guardK_if guardD_if COND_bool

theorem encSm_brw (σ : Hp) (d : Nat) (x : Sm) : brwL σ d (encSm x) = some (encSm x, []) := by
  simp only [encSm, brwL_cons, brwL_nil, brw_sc, brw_s, brw_tr, List.append_nil]
theorem encSm_leaf (x : Sm) : (encSm x).all leafok = true := rfl
attribute [go_sem] encSm_leaf
theorem addIs_con (y : Ix) (x : Sm) : Con Try.prog 87 ([.ag (encX y)] ++ [.fp (encSm x)]) (.ret (.sc (.bool (decide (y.name = x.index))))) := by
  refine con_of (by_catalog_Add_c1 ?_)
  have hx4 : (encSm x)[4]? = some (.s x.index) := rfl
  have hd : (encSm x).drop 4 = .s x.index :: (encSm x).drop 5 := rfl
  have hl : 4 < (encSm x).length := by rw [encSm_len]; omega
  simp (maxSteps := 1000000) (disch := omega) only [sh_catalog_Add_c1, encX, hd, go_sem, wrapI, wrapB, upd_is, upd_not, Nat.reduceAdd, Nat.reduceSub, Nat.reduceMul, Nat.reduceLeDiff, Nat.reduceEqDiff, Int.reduceAdd, Int.reduceSub, Int.reduceMul, Int.reduceNeg, Int.reduceLT, Int.reduceLE, Int.reduceEq, Int.reduceToNat, reduceCtorEq, reduceIte, Nat.zero_add, Nat.add_zero, *]
  exact RC_ret rfl rfl
theorem brw_nest {σ : Hp} {d T k len : Nat} {rows rows' : List (List AV)} {w : Bool} {J : List Nat} (h : σ T = some (.c ⟨k, rows, w, false⟩)) (hl : rows.length = len) (hk : 0 < k) (hR : brwR σ d rows = some (rows', J)) : brw σ (d + 1) (.ow T k 0 len) = some (.tr rows', T :: J) := by
  rw [brw_ow', h]
  simp only
  rw [if_neg (by simp), if_pos ⟨trivial, by omega, hk⟩, List.drop_zero, List.take_of_length_le (by omega), hR]; rfl
theorem any_snoc {α : Type} {l : List α} {q : α → Bool} {i : Nat} {x : α} (h : l[i]? = some x) : (l.take (i + 1)).any q = ((l.take i).any q || q x) := by
  rw [List.take_add_one, h, List.any_append]; simp
set_option maxHeartbeats 2000000 in
theorem add_con (ts : List Tb) (x : Sm) (ht : CBd ts) (hx : SBd x) : Con Try.prog 41 [.ag [.tr (ts.map encT)], .ag (encSm x)] (stRes (addF ts x)) := by
  refine con_of (by_catalog_Add ?_)
  generalize hR : RC _ = R
  have HR := Lib.hid hR; clear hR
  have HCk := Lib.hid (catCheck_con ts ht)
  have HSy := Lib.hid (check_con x hx)
  have HPl := Lib.hid (tplace_con ts x.table)
  have HTB := Lib.hid (fun t (h : t ∈ ts) => (⟨(ht.rg t h).bd.col.1, (ht.rg t h).bd.ind.1⟩ : TBd t))
  have bad : ∀ (e : Int) (σ : Hp) (n : Nat), addF ts x = ([], e) → R (.ret (.tp [.ag [.em], .sc (.int .i64 e)])) σ n := by
    intro e σ n h
    rw [← HR.out, h]; exact RC_ret rfl rfl
  have BAD := Lib.hid bad; clear bad
  have hlt := ht.len
  clear ht hx
  have hx0 : (encSm x)[0]? = some (.sc (.int .i64 x.kind)) := rfl
  have hx1 : (encSm x)[1]? = some (.s x.table) := rfl
  have hx3 : (encSm x)[3]? = some (.s x.key) := rfl
  have hx4 : (encSm x)[4]? = some (.s x.index) := rfl
  simp (maxSteps := 1000000) (disch := omega) only [sh_catalog_Add, go_sem, wrapI, wrapB, upd_is, upd_not, Nat.reduceAdd, Nat.reduceSub, Nat.reduceMul, Nat.reduceLeDiff, Nat.reduceEqDiff, Int.reduceAdd, Int.reduceSub, Int.reduceMul, Int.reduceNeg, Int.reduceLT, Int.reduceLE, Int.reduceEq, Int.reduceToNat, reduceCtorEq, reduceIte, Nat.zero_add, Nat.add_zero, *]
  refine CALL_con0 HCk.out rfl ?_
  by_cases h1 : catCheckF ts = 0
  · by_cases h2 : x.kind = 2
    · simp (maxSteps := 1000000) (disch := omega) only [decide_true, decide_false, go_sem, wrapI, wrapB, upd_is, upd_not, Nat.reduceAdd, Nat.reduceSub, Nat.reduceMul, Nat.reduceLeDiff, Nat.reduceEqDiff, Int.reduceAdd, Int.reduceSub, Int.reduceMul, Int.reduceNeg, Int.reduceLT, Int.reduceLE, Int.reduceEq, Int.reduceToNat, reduceCtorEq, reduceIte, Nat.zero_add, Nat.add_zero, *]
      refine CALL_con0 HSy.out rfl ?_
      by_cases h3 : checkF x = 0
      · simp (maxSteps := 1000000) (disch := omega) only [decide_true, decide_false, go_sem, wrapI, wrapB, upd_is, upd_not, Nat.reduceAdd, Nat.reduceSub, Nat.reduceMul, Nat.reduceLeDiff, Nat.reduceEqDiff, Int.reduceAdd, Int.reduceSub, Int.reduceMul, Int.reduceNeg, Int.reduceLT, Int.reduceLE, Int.reduceEq, Int.reduceToNat, reduceCtorEq, reduceIte, Nat.zero_add, Nat.add_zero, *]
        refine CALL_con0 HPl.out rfl ?_
        cases h4 : tis_ ts x.table with
        | false =>
          simp (maxSteps := 1000000) (disch := omega) only [go_sem, wrapI, wrapB, upd_is, upd_not, Nat.reduceAdd, Nat.reduceSub, Nat.reduceMul, Nat.reduceLeDiff, Nat.reduceEqDiff, Int.reduceAdd, Int.reduceSub, Int.reduceMul, Int.reduceNeg, Int.reduceLT, Int.reduceLE, Int.reduceEq, Int.reduceToNat, reduceCtorEq, reduceIte, Nat.zero_add, Nat.add_zero, *]
          exact BAD.out _ _ _ (by rw [addF, if_neg (by simp [h1]), if_neg (by simp [h2, h3]), if_pos h4])
        | true =>
          have hpl : tpl_ ts x.table < ts.length := by
            unfold tis_ at h4
            simp only [Bool.and_eq_true, decide_eq_true_eq] at h4
            exact h4.1
          have hadd : addF ts x = if (colF (ts.getD (tpl_ ts x.table) tb0).columns x.key).2 ≠ 0 then ([], (colF (ts.getD (tpl_ ts x.table) tb0).columns x.key).2)
              else if anyIx ts x.index = true then ([], 6)
              else if ((ts.getD (tpl_ ts x.table) tb0).indexes.length : Int) = 4 then ([], 51)
              else (ts.set (tpl_ ts x.table) { ts.getD (tpl_ ts x.table) tb0 with indexes := (ts.getD (tpl_ ts x.table) tb0).indexes ++ [⟨x.index, (colF (ts.getD (tpl_ ts x.table) tb0).columns x.key).1⟩] }, 0) := by
            rw [addF, if_neg (by simp [h1]), if_neg (by simp [h2, h3]), if_neg (by simp [h4])]
          generalize tpl_ ts x.table = p at *
          obtain ⟨t, hpt⟩ : ∃ t, ts[p]? = some t := ⟨ts[p], List.getElem?_eq_getElem hpl⟩
          have hgd : ts.getD p tb0 = t := by rw [List.getD_eq_getElem?_getD, hpt]; rfl
          rw [hgd] at hadd
          have HAD := Lib.hid hadd; clear hadd hgd h1 h2 h3 h4 HCk HSy HPl
          have hrow : (ts.map encT)[p]? = some (encT t) := by rw [List.getElem?_map, hpt]; rfl
          have HCo := Lib.hid (column_con t x.key)
          simp (maxSteps := 1000000) (disch := omega) only [go_sem, wrapI, wrapB, upd_is, upd_not, Nat.reduceAdd, Nat.reduceSub, Nat.reduceMul, Nat.reduceLeDiff, Nat.reduceEqDiff, Int.reduceAdd, Int.reduceSub, Int.reduceMul, Int.reduceNeg, Int.reduceLT, Int.reduceLE, Int.reduceEq, Int.reduceToNat, reduceCtorEq, reduceIte, Nat.zero_add, Nat.add_zero, *]
          refine callD_con0 HCo.out (by simp only [List.append_nil, brwL_cons, brwL_nil, brw_ag, brw_s, encT_brw, Option.map_some]) ?_
          clear HCo
          have hfind := fun h => colF_find (cs := t.columns) (x := x.key) h
          generalize colF t.columns x.key = k at *
          by_cases e : k.2 = 0
          · obtain ⟨c, hc, _, hk0, hk1⟩ := hfind e
            have HAD' := HAD.out
            rw [if_neg (by simp [e])] at HAD'
            clear HAD hfind
            have HAD := Lib.hid HAD'; clear HAD'
            have HCF := Lib.hid (fun xs => cfX_con 87 [.fp (encSm x)] (fun y => decide (y.name = x.index)) xs (fun σ => by simp only [brwL_cons, brwL_nil, brw_fp, List.append_nil]) (fun σ => by simp only [brwL_cons, brwL_nil, brw_fp, List.append_nil]) (fun y _ => addIs_con y x))
            simp (maxSteps := 1000000) (disch := omega) only [decide_true, decide_false, go_sem, wrapI, wrapB, upd_is, upd_not, Nat.reduceAdd, Nat.reduceSub, Nat.reduceMul, Nat.reduceLeDiff, Nat.reduceEqDiff, Int.reduceAdd, Int.reduceSub, Int.reduceMul, Int.reduceNeg, Int.reduceLT, Int.reduceLE, Int.reduceEq, Int.reduceToNat, reduceCtorEq, reduceIte, Nat.zero_add, Nat.add_zero, *]
            refine fun n_ hn_ hb1 => ?_
            refine LOOP_listM ts (fun i s σ' n' => (∃ a b c d, s = [a, b, c, d, .sc (.int .i64 i)]) ∧ 48 ≤ n' ∧ σ' 0 = some (.c ⟨1, [[.tr (ts.map encT)]], true, false⟩) ∧ σ' 16 = some (.c ⟨14, [encSm x], true, false⟩) ∧ σ' 32 = some (.c ⟨1, [[.em]], true, false⟩) ∧ (ts.take i).any (fun t => t.indexes.any fun y => decide (y.name = x.index)) = false)
              (.refl ⟨⟨_, _, _, _, rfl⟩, by omega, ?_, ?_, ?_, rfl⟩) ?_ ?_
            · simp (disch := omega) only [upd_not, upd_is]
            · simp (disch := omega) only [upd_not, upd_is]
            · simp (disch := omega) only [upd_not, upd_is]
            · rintro i u K s' σ n2 hu hi hi' hn2 ⟨⟨a, b, d, f, rfl⟩, hn3, k0, k16, k32, hany⟩ hK
              have HK := Lib.hid hK; clear hK
              have hanyn := any_snoc (q := fun t : Tb => t.indexes.any fun y => decide (y.name = x.index)) hu
              rw [hany, Bool.false_or] at hanyn
              have HAN := Lib.hid hanyn; clear hanyn
              clear hany hpt
              simp (maxSteps := 1000000) (disch := omega) only [lb_catalog_Add4, encT, go_sem, wrapI, wrapB, upd_is, upd_not, Nat.reduceAdd, Nat.reduceSub, Nat.reduceMul, Nat.reduceLeDiff, Nat.reduceEqDiff, Int.reduceAdd, Int.reduceSub, Int.reduceMul, Int.reduceNeg, Int.reduceLT, Int.reduceLE, Int.reduceEq, Int.reduceToNat, reduceCtorEq, reduceIte, Nat.zero_add, Nat.add_zero, *]
              refine CALL_conS (I := [16]) (HCF.out u.indexes) ?_ rfl ?_
              · have e16 : ∀ y z, upd (upd σ n2 y) n2 z 16 = some (.c ⟨14, [encSm x], true, false⟩) := fun y z => by simp (disch := omega) only [upd_not]; exact k16
                simp only [List.append_nil, List.cons_append, List.nil_append, brwL_cons, brwL_nil, brw_tr, brw_fn, brw_rf', e16, if_true, List.getElem?_cons_zero, List.drop_zero, encSm_brw, encSm_len, Option.map_some]
                rfl
              obtain ⟨q, hq⟩ : ∃ q, q = u.indexes.any fun y => decide (y.name = x.index) := ⟨_, rfl⟩
              rw [← hq]
              cases q with
              | true =>
                simp (maxSteps := 1000000) (disch := omega) only [go_sem, wrapI, wrapB, upd_is, upd_not, Nat.reduceAdd, Nat.reduceSub, Nat.reduceMul, Nat.reduceLeDiff, Nat.reduceEqDiff, Int.reduceAdd, Int.reduceSub, Int.reduceMul, Int.reduceNeg, Int.reduceLT, Int.reduceLE, Int.reduceEq, Int.reduceToNat, reduceCtorEq, reduceIte, Nat.zero_add, Nat.add_zero, *]
                exact BAD.out _ _ _ (by rw [HAD.out, if_pos (show anyIx ts x.index = true from List.any_eq_true.2 ⟨u, List.mem_of_getElem? hu, hq.symm⟩)])
              | false =>
                rw [← hq] at HAN
                clear hq
                simp (maxSteps := 1000000) (disch := omega) only [go_sem, wrapI, wrapB, upd_is, upd_not, Nat.reduceAdd, Nat.reduceSub, Nat.reduceMul, Nat.reduceLeDiff, Nat.reduceEqDiff, Int.reduceAdd, Int.reduceSub, Int.reduceMul, Int.reduceNeg, Int.reduceLT, Int.reduceLE, Int.reduceEq, Int.reduceToNat, reduceCtorEq, reduceIte, Nat.zero_add, Nat.add_zero, *]
                refine HK.out _ _ _ (.refl ⟨⟨_, _, _, _, rfl⟩, by omega, ?_, ?_, ?_, HAN.out⟩)
                · simp (disch := omega) only [upd_not]; exact k0
                · simp (disch := omega) only [upd_not]; exact k16
                · simp (disch := omega) only [upd_not]; exact k32
            · rintro K s' σ n2 hn2 ⟨⟨a, b, d, f, rfl⟩, hn3, k0, k16, k32, hany⟩
              rw [List.take_length] at hany
              have HAD' := HAD.out
              rw [anyIx, if_neg (by rw [hany]; simp)] at HAD'
              clear HAD hany HCF
              have hd3 : (encT t).drop 3 = [.tr (t.indexes.map encX)] := rfl
              simp (maxSteps := 1000000) (disch := omega) only [lb_catalog_Add4, Int.lt_irrefl, hd3, go_sem, wrapI, wrapB, upd_is, upd_not, Nat.reduceAdd, Nat.reduceSub, Nat.reduceMul, Nat.reduceLeDiff, Nat.reduceEqDiff, Int.reduceAdd, Int.reduceSub, Int.reduceMul, Int.reduceNeg, Int.reduceLT, Int.reduceLE, Int.reduceEq, Int.reduceToNat, reduceCtorEq, reduceIte, Nat.zero_add, Nat.add_zero, *]
              by_cases e4 : (t.indexes.length : Int) = 4
              · simp (maxSteps := 1000000) (disch := omega) only [decide_true, decide_false, go_sem, wrapI, wrapB, upd_is, upd_not, Nat.reduceAdd, Nat.reduceSub, Nat.reduceMul, Nat.reduceLeDiff, Nat.reduceEqDiff, Int.reduceAdd, Int.reduceSub, Int.reduceMul, Int.reduceNeg, Int.reduceLT, Int.reduceLE, Int.reduceEq, Int.reduceToNat, reduceCtorEq, reduceIte, Nat.zero_add, Nat.add_zero, *]
                intro _
                exact BAD.out _ _ _ (by rw [HAD', if_pos e4])
              · rw [if_neg e4] at HAD'
                have HAD := Lib.hid HAD'; clear HAD'
                have HPT := Lib.hid hpt; clear hpt
                simp (maxSteps := 1000000) (disch := omega) only [decide_true, decide_false, go_sem, wrapI, wrapB, upd_is, upd_not, Nat.reduceAdd, Nat.reduceSub, Nat.reduceMul, Nat.reduceLeDiff, Nat.reduceEqDiff, Int.reduceAdd, Int.reduceSub, Int.reduceMul, Int.reduceNeg, Int.reduceLT, Int.reduceLE, Int.reduceEq, Int.reduceToNat, reduceCtorEq, reduceIte, Nat.zero_add, Nat.add_zero, *]
                intro _
                refine CALL_conH (catCloneAt_con ts hlt HTB.out p t HPT.out _ _) ?_
                rintro r σ' n4 ⟨T, ta, tb, rfl, hT, hTa, hab, hbn, sT, sA, sB, hk⟩ hn4
                have k0' := hk _ _ k0
                have k16' := hk _ _ k16
                have k32' := hk _ _ k32
                clear k0 k16 k32 hk
                have hrow2 : ((ts.map encT).set p (ownT t ta tb))[p]? = some (ownT t ta tb) := by
                  rw [List.getElem?_set]; simp [hpl]
                have hdo : (ownT t ta tb).drop 3 = [.ow tb 2 0 t.indexes.length] := rfl
                have hdx : (encSm x).drop 4 = .s x.index :: (encSm x).drop 5 := rfl
                have hlx : 4 < (encSm x).length := by rw [encSm_len]; omega
                have hpi : (p : Int) < (ts.length : Int) := by omega
                have hil : t.indexes.length ≤ 1048576 := (HTB.out t (List.mem_of_getElem? HPT.out)).ind
                have c1 : (t.indexes.length + 1) * 24 ≤ 140737488355328 := by omega
                have c2 : ¬ tb = n4 + 16 + 208 := by omega
                have c3 : ¬ tb = n4 + 16 + 224 := by omega
                have c4 : ¬ T = 0 := by omega
                have c5 : ¬ tb = 0 := by omega
                have c6 : ¬ T = n4 + 16 + 208 := by omega
                have c7 : ¬ T = n4 + 16 + 224 := by omega
                have c8 : ¬ T = tb := by omega
                have ho3 : (ownT t ta tb)[3]? = some (.ow tb 2 0 t.indexes.length) := rfl
                have hot : (ownT t ta tb).take 3 = [.s t.name, .ow ta 3 0 t.columns.length, .sc (.int .i64 t.key)] := rfl
                simp (maxSteps := 1000000) (disch := omega) only [hdo, hdx, ho3, hot, Bool.false_and, go_sem, wrapI, wrapB, upd_is, upd_not, Nat.reduceAdd, Nat.reduceSub, Nat.reduceMul, Nat.reduceLeDiff, Nat.reduceEqDiff, Int.reduceAdd, Int.reduceSub, Int.reduceMul, Int.reduceNeg, Int.reduceLT, Int.reduceLE, Int.reduceEq, Int.reduceToNat, reduceCtorEq, reduceIte, Nat.zero_add, Nat.add_zero, *]
                refine ⟨fun q hq => by omega, fun q hq => by omega, fun q hq => by omega, fun q hq => by omega, fun n5 hn5 => ?_⟩
                rw [← HR.out, HAD.out, List.set_set]
                generalize hσ : upd (upd (upd (upd (upd (upd σ' 0 _) _ _) _ _) _ _) _ _) _ _ = σ3
                have q1 : σ3 T = some (.c ⟨4, (ts.map encT).set p [.s t.name, .ow ta 3 0 t.columns.length, .sc (.int .i64 t.key), .ow (n4 + 16 + 224) 2 0 (t.indexes.length + 1)], true, false⟩) := by
                  rw [← hσ]; simp (disch := omega) only [upd_not, upd_is]
                have q2 : σ3 ta = some (.c ⟨3, t.columns.map encC, true, true⟩) := by
                  rw [← hσ]; simp (disch := omega) only [upd_not]; exact sA
                have q3 : σ3 (n4 + 16 + 224) = some (.c ⟨2, t.indexes.map encX ++ [[.s x.index, .sc (.int .i64 k.1)]], true, true⟩) := by
                  rw [← hσ]; simp (disch := omega) only [upd_not, upd_is]
                clear hσ
                have hrw : brwL σ3 3 [.s t.name, .ow ta 3 0 t.columns.length, .sc (.int .i64 t.key), .ow (n4 + 16 + 224) 2 0 (t.indexes.length + 1)] = some (encT { t with indexes := t.indexes ++ [⟨x.index, k.1⟩] }, [ta, n4 + 16 + 224]) := by
                  simp only [brwL_cons, brwL_nil, brw_s, brw_sc]
                  rw [brw_all q2 (List.length_map _) (by omega), brw_all q3 (by simp) (by omega)]
                  simp only [encT, List.map_append]; rfl
                obtain ⟨J, hJ⟩ := brwR_set hrw (rows := ts.map encT) (p := p) (fun q hq => by
                  obtain ⟨u, _, rfl⟩ := List.mem_map.1 hq
                  exact encT_brw _ _ _)
                refine RC_ret (I := T :: J) ?_ rfl
                simp only [brw_tp, brw_ag, brwL_cons, brwL_nil, brw_sc]
                rw [brw_nest q1 (by simp) (by omega) hJ, ← List.map_set]
                simp only [Option.map_some, List.append_nil]
          · simp (maxSteps := 1000000) (disch := omega) only [decide_true, decide_false, go_sem, wrapI, wrapB, upd_is, upd_not, Nat.reduceAdd, Nat.reduceSub, Nat.reduceMul, Nat.reduceLeDiff, Nat.reduceEqDiff, Int.reduceAdd, Int.reduceSub, Int.reduceMul, Int.reduceNeg, Int.reduceLT, Int.reduceLE, Int.reduceEq, Int.reduceToNat, reduceCtorEq, reduceIte, Nat.zero_add, Nat.add_zero, *]
            refine fun n_ hn_ => ?_
            exact BAD.out _ _ _ (by rw [HAD.out, if_pos e])
      · simp (maxSteps := 1000000) (disch := omega) only [decide_true, decide_false, go_sem, wrapI, wrapB, upd_is, upd_not, Nat.reduceAdd, Nat.reduceSub, Nat.reduceMul, Nat.reduceLeDiff, Nat.reduceEqDiff, Int.reduceAdd, Int.reduceSub, Int.reduceMul, Int.reduceNeg, Int.reduceLT, Int.reduceLE, Int.reduceEq, Int.reduceToNat, reduceCtorEq, reduceIte, Nat.zero_add, Nat.add_zero, *]
        exact BAD.out _ _ _ (by rw [addF, if_neg (by simp [h1]), if_pos (by simp [h3])])
    · simp (maxSteps := 1000000) (disch := omega) only [decide_true, decide_false, go_sem, wrapI, wrapB, upd_is, upd_not, Nat.reduceAdd, Nat.reduceSub, Nat.reduceMul, Nat.reduceLeDiff, Nat.reduceEqDiff, Int.reduceAdd, Int.reduceSub, Int.reduceMul, Int.reduceNeg, Int.reduceLT, Int.reduceLE, Int.reduceEq, Int.reduceToNat, reduceCtorEq, reduceIte, Nat.zero_add, Nat.add_zero, *]
      exact BAD.out _ _ _ (by rw [addF, if_neg (by simp [h1]), if_pos (by simp [h2])])
  · simp (maxSteps := 1000000) (disch := omega) only [decide_true, decide_false, go_sem, wrapI, wrapB, upd_is, upd_not, Nat.reduceAdd, Nat.reduceSub, Nat.reduceMul, Nat.reduceLeDiff, Nat.reduceEqDiff, Int.reduceAdd, Int.reduceSub, Int.reduceMul, Int.reduceNeg, Int.reduceLT, Int.reduceLE, Int.reduceEq, Int.reduceToNat, reduceCtorEq, reduceIte, Nat.zero_add, Nat.add_zero, *]
    exact BAD.out _ _ _ (by rw [addF, if_pos h1])
end Go.Proofs.Ytlhnncmflnjinaa
