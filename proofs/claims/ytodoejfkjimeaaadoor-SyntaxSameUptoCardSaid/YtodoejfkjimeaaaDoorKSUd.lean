/- Packed by a program of this repo: Ud Uf Uh. -/
import Derived.Test.YtodoejfkjimeaaaDoorKSUb
import Derived.Test.YtodoejfkjimeaaaDoorKSUe
import Derived.Test.YtodoejfkjimeaaaDoorKSSh6
set_option linter.unusedSimpArgs false
set_option linter.unusedVariables false
set_option maxRecDepth 100000
namespace Go.Proofs.YtodoejfkjimeaaaDoor
open Go Go.RowKit Am
attribute [-go_sem] guardP_if guardK_if guardD_if COND_bool
attribute [local go_sem low] guardP_if guardK_if guardD_if COND_bool
def limF (x : Sm) : Bool := if x.kind = 7 then decide (-1 ≤ x.limit) && decide (x.limit ≤ 2147483648) else decide (x.limit = 0)
def joinF (x : Sm) : Bool := decide (x.join ≠ []) == decide (0 < (x.on.length : Int))
theorem countF_iff (n m : Int) (a : Bool) (l : Int) : countF n m a l = true ↔ ((a = true → l ≤ n ∧ n ≤ m) ∧ (a = false → n = 0)) := by
  cases a <;> simp [countF]
set_option maxHeartbeats 4000000 in
theorem shape_ref (x : Sm) (h1 : 1 ≤ x.kind) (h2 : x.kind ≤ 10) : shapeF x = (countsF x && namesF x && lstF x && limF x && joinF x) := by
  obtain ⟨kind, table, columns, key, index, rows, sets, items, join, on, wh, group, order, limit⟩ := x
  simp only at h1 h2
  have hn : ∀ n m p : Bool, (n && m && p && (decide (join = []) || (decide (kind = 7) && nameL join))) = true → (join = [] ∨ kind = 7) := by
    intro n m p h
    simp at h
    rcases h.2 with h | h
    · exact .inl h
    · exact .inr h.1
  simp only [shapeF, countsF, cntF, lensF, namesF, lstF, limF, joinF]
  have hn' := hn (namedF table (decide (kind ≤ 7))) (namedF key (decide (kind = 1) || decide (kind = 2))) (namedF index (decide (kind = 2)))
  clear hn
  generalize (namedF table (decide (kind ≤ 7)) && namedF key (decide (kind = 1) || decide (kind = 2)) && namedF index (decide (kind = 2)) && (decide (join = []) || (decide (kind = 7) && nameL join))) = N at *
  generalize columns.any colBad = c1
  generalize rows.any rowBad = c2
  generalize sets.any setBad = c3
  generalize order.any ordBad = c4
  generalize (columns.length : Int) = l1
  generalize (rows.length : Int) = l2
  generalize (sets.length : Int) = l3
  generalize (items.length : Int) = l4
  generalize (wh.length : Int) = l6
  generalize (group.length : Int) = l7
  generalize (order.length : Int) = l8
  have l5 : 0 ≤ (on.length : Int) := by omega
  generalize (on.length : Int) = l5 at *
  have hj : join = [] ∨ join ≠ [] := Classical.em _
  rw [Bool.eq_iff_iff]
  have hk : kind = 1 ∨ kind = 2 ∨ kind = 3 ∨ kind = 4 ∨ kind = 5 ∨ kind = 6 ∨ kind = 7 ∨ kind = 8 ∨ kind = 9 ∨ kind = 10 := by omega
  rcases hj with hj | hj
  · rcases hk with rfl | rfl | rfl | rfl | rfl | rfl | rfl | rfl | rfl | rfl
    all_goals
      simp [bdsF, cntOk, countF_iff, hj]
      constructor <;> intro h <;> and_intros <;> first | omega | simp_all
  · rcases hk with rfl | rfl | rfl | rfl | rfl | rfl | rfl | rfl | rfl | rfl
    all_goals
      simp [hj] at hn'
      simp [bdsF, cntOk, countF_iff, hj]
      first
      | (constructor <;> intro h <;> and_intros <;> first | omega | (simp_all; done))
      | (constructor <;> intro h <;> exact absurd (hn' (by simp_all)) (by omega))
      | (constructor <;> intro h <;> simp_all)
theorem smBrw (σ : Hp) (d : Nat) (x : Sm) : brwL σ d (encSm x) = some (encSm x, []) := by
  simp only [encSm, brwL_cons, brwL_nil, brw_ag, brw_sc, brw_tr, brw_s, List.append_nil, Option.map_some, List.nil_append]
theorem firstBad_flat (x : Sm) : firstBad (listsF x).flatten = (if firstBad x.rows.flatten ≠ 0 then firstBad x.rows.flatten else if firstBad (x.sets.map (·.ex)) ≠ 0 then firstBad (x.sets.map (·.ex)) else firstBad ([x.items, x.on, x.where_, x.group].flatten)) := by
  have h1 : (x.sets.map (fun s => [s.ex])).flatten = x.sets.map (·.ex) := by
    induction x.sets with
    | nil => rfl
    | cons s l ih => simp only [List.map_cons, List.flatten_cons, ih]; rfl
  rw [listsF, List.flatten_append, List.flatten_append, h1, firstBad_append, firstBad_append]
  by_cases h2 : firstBad x.rows.flatten = 0
  · by_cases h3 : firstBad (x.sets.map (·.ex)) = 0 <;> simp [h2, h3]
  · simp [h2]
theorem flat_next {L : List (List Ep)} {i : Nat} {l : List Ep} (hx : L[i]? = some l) (h : firstBad (L.take i).flatten = 0) : firstBad (L.take (i + 1)).flatten = firstBad l := by
  rw [flat_take hx, firstBad_append, if_pos h]
theorem flat_stop {L : List (List Ep)} {i : Nat} {l : List Ep} (hx : L[i]? = some l) (h : firstBad (L.take i).flatten = 0) (h2 : firstBad l ≠ 0) : firstBad L.flatten = firstBad l := by
  rw [flat_split hx, firstBad_append, if_pos h, firstBad_append, if_neg h2]
theorem sets_next {L : List Se} {i : Nat} {s : Se} (hx : L[i]? = some s) (h : firstBad ((L.take i).map (·.ex)) = 0) : firstBad ((L.take (i + 1)).map (·.ex)) = exErr s.ex := by
  rw [List.take_add_one, hx, List.map_append, firstBad_append, if_pos h]
  simp only [Option.toList, List.map_cons, List.map_nil, firstBad]
  split <;> simp_all
theorem sets_stop {L : List Se} {i : Nat} {s : Se} (hx : L[i]? = some s) (h : firstBad ((L.take i).map (·.ex)) = 0) (h2 : exErr s.ex ≠ 0) : firstBad (L.map (·.ex)) = exErr s.ex := by
  have h3 := sets_next hx h
  have : L.map (·.ex) = (L.take (i + 1)).map (·.ex) ++ (L.drop (i + 1)).map (·.ex) := by rw [← List.map_append, List.take_append_drop]
  rw [this, firstBad_append, h3, if_neg h2]
set_option maxHeartbeats 8000000 in
theorem rfSCheck_con (x : Sm) (hb : SBd x) (hg : SRg x) : Con Tryd.prog 18 [.ag (encSm x)] (.ret (.sc (.int .i64 (checkF x)))) := by
  refine con_of (by_ref04_Check ?_)
  generalize hR : RC _ = R
  have HR := Lib.hid hR; clear hR
  have HCo := Lib.hid (rfCounts_con x hb)
  have HNa := Lib.hid (rfNames_con x hb)
  have HLi := Lib.hid (rfLists_con x hb)
  have HRow := Lib.hid (fun l hl => rfExprs_con l (hb.row l hl) (hg.row l hl))
  have HSet := Lib.hid (fun s hs => rfCheckExpr_con (Se.ex s) (hb.set s hs).2 (hg.set s hs))
  have HIt := Lib.hid (rfExprs_con x.items hb.items hg.items)
  have HOn := Lib.hid (rfExprs_con x.on hb.on hg.on)
  have HWh := Lib.hid (rfExprs_con x.where_ hb.where_ hg.where_)
  have HGr := Lib.hid (rfExprs_con x.group hb.group hg.group)
  have e5 := hb.rows; have e6 := hb.sets; have e9 := hb.on.len; have e11 := hb.group.len
  clear hb hg
  have hF : checkF x = if x.kind < 1 ∨ 10 < x.kind then 22 else if shapeF x = false then 9
    else if firstBad (listsF x).flatten ≠ 0 then firstBad (listsF x).flatten
    else match x.group with
      | [] => 0
      | e :: _ => if e.op ≠ 1 then 9 else 0 := rfl
  have HF := Lib.hid hF; clear hF
  have HSh := Lib.hid (shape_ref x)
  have h0e : (encSm x)[0]? = some (.sc (.int .i64 x.kind)) := rfl
  have h13e : (encSm x)[13]? = some (.sc (.int .i64 x.limit)) := rfl
  by_cases h1 : x.kind < 1
  · simp (maxSteps:=1000000) (disch:=omega) only [sh_ref04_Check,encSm,decide_true,decide_false,go_sem,wrapI,wrapB,upd_is,upd_not,Nat.reduceAdd,Nat.reduceSub,Nat.reduceMul,Nat.reduceLeDiff,Nat.reduceEqDiff,Int.reduceAdd,Int.reduceSub,Int.reduceMul,Int.reduceNeg,Int.reduceLT,Int.reduceLE,Int.reduceEq,Int.reduceToNat,reduceCtorEq,reduceIte,Nat.zero_add,Nat.add_zero, *]
    rw [← HR.out]; exact RC_ret rfl (by rw [HF.out, if_pos (.inl h1)])
  · by_cases h2 : 10 < x.kind
    · simp (maxSteps:=1000000) (disch:=omega) only [sh_ref04_Check,encSm,decide_true,decide_false,go_sem,wrapI,wrapB,upd_is,upd_not,Nat.reduceAdd,Nat.reduceSub,Nat.reduceMul,Nat.reduceLeDiff,Nat.reduceEqDiff,Int.reduceAdd,Int.reduceSub,Int.reduceMul,Int.reduceNeg,Int.reduceLT,Int.reduceLE,Int.reduceEq,Int.reduceToNat,reduceCtorEq,reduceIte,Nat.zero_add,Nat.add_zero, *]
      rw [← HR.out]; exact RC_ret rfl (by rw [HF.out, if_pos (.inr h2)])
    · have hF2 := HF.out
      rw [if_neg (by omega), HSh.out (by omega) (by omega)] at hF2
      have HF2 := Lib.hid hF2; clear hF2 HF HSh
      have hlm : limF x = if x.kind = 7 then decide (-1 ≤ x.limit) && decide (x.limit ≤ 2147483648) else decide (x.limit = 0) := rfl
      have HLM := Lib.hid hlm; clear hlm
      have HJ : joinF x = (decide (x.join ≠ []) == decide (0 < (x.on.length : Int))) := rfl
      have HJ' := Lib.hid HJ; clear HJ
      have rest : ∀ s12 v σ n, s12 = [v, .sc (.bool (limF x))] → σ 0 = some (.c ⟨14, [encSm x], true, false⟩) → 16 ≤ n → jk_ref04_Check10 (.rf 0 14 0 0) R s12 σ n := by
        intro s12 v σ n hs h0 hn
        subst hs
        clear h1 h2 h0e h13e
        rw [jk_ref04_Check10, show aLd σ (some 14) (.rf 0 14 0 0) = some (.ag (encSm x)) from by simp [aLd, h0, Am.part, encSm], bindP_some]
        refine CALL_con0 HCo.out (by simp only [List.append_nil, brwL_cons, brwL_nil, brw_ag, smBrw, Option.map_some]) ?_
        rw [kc_ref04_Check9, onEnd_ret]
        have hld14 : aLd σ (some 14) (.rf 0 14 0 0) = some (.ag (encSm x)) := by simp [aLd, h0, Am.part, encSm]
        have l8 : aLd σ none (.rf 0 14 0 8) = some (.s x.join) := ld_box h0 rfl
        have l9 : aLd σ none (.rf 0 14 0 9) = some (.tr (x.on.map encE)) := ld_box h0 rfl
        have n9 := len_tr x.on encE
        cases hc1 : countsF x
        · simp (maxSteps:=1000000) (disch:=omega) only [decide_true,decide_false,go_sem,wrapI,wrapB,upd_is,upd_not,Nat.reduceAdd,Nat.reduceSub,Nat.reduceMul,Nat.reduceLeDiff,Nat.reduceEqDiff,Int.reduceAdd,Int.reduceSub,Int.reduceMul,Int.reduceNeg,Int.reduceLT,Int.reduceLE,Int.reduceEq,Int.reduceToNat,reduceCtorEq,reduceIte,Nat.zero_add,Nat.add_zero, *]
          rw [← HR.out]; exact RC_ret rfl (by rw [HF2.out, hc1]; rfl)
        · rw [aUn_not, bindP_some]
          simp only [Bool.not_true, guardP_on, guardK_on]
          rw [hld14, bindP_some]
          refine CALL_con0 HNa.out (by simp only [List.append_nil, brwL_cons, brwL_nil, brw_ag, smBrw, Option.map_some]) ?_
          rw [kc_ref04_Check1, onEnd_ret]
          cases hc2 : namesF x
          · simp (maxSteps:=1000000) (disch:=omega) only [decide_true,decide_false,go_sem,wrapI,wrapB,upd_is,upd_not,Nat.reduceAdd,Nat.reduceSub,Nat.reduceMul,Nat.reduceLeDiff,Nat.reduceEqDiff,Int.reduceAdd,Int.reduceSub,Int.reduceMul,Int.reduceNeg,Int.reduceLT,Int.reduceLE,Int.reduceEq,Int.reduceToNat,reduceCtorEq,reduceIte,Nat.zero_add,Nat.add_zero, *]
            rw [← HR.out]; exact RC_ret rfl (by rw [HF2.out, hc1, hc2]; rfl)
          · simp only [aUn_not, aPick_b, bindP_some, Bool.not_true, cond_false, guardP_on, guardK_on]
            rw [hld14, bindP_some]
            refine CALL_con0 HLi.out (by simp only [List.append_nil, brwL_cons, brwL_nil, brw_ag, smBrw, Option.map_some]) ?_
            rw [kc_ref04_Check2, onEnd_ret]
            cases hc3 : lstF x
            · simp (maxSteps:=1000000) (disch:=omega) only [decide_true,decide_false,go_sem,wrapI,wrapB,upd_is,upd_not,Nat.reduceAdd,Nat.reduceSub,Nat.reduceMul,Nat.reduceLeDiff,Nat.reduceEqDiff,Int.reduceAdd,Int.reduceSub,Int.reduceMul,Int.reduceNeg,Int.reduceLT,Int.reduceLE,Int.reduceEq,Int.reduceToNat,reduceCtorEq,reduceIte,Nat.zero_add,Nat.add_zero, *]
              rw [← HR.out]; exact RC_ret rfl (by rw [HF2.out, hc1, hc2, hc3]; rfl)
            · cases hc4 : limF x
              · simp (maxSteps:=1000000) (disch:=omega) only [decide_true,decide_false,List.getD_cons_succ,List.getD_cons_zero,go_sem,wrapI,wrapB,upd_is,upd_not,Nat.reduceAdd,Nat.reduceSub,Nat.reduceMul,Nat.reduceLeDiff,Nat.reduceEqDiff,Int.reduceAdd,Int.reduceSub,Int.reduceMul,Int.reduceNeg,Int.reduceLT,Int.reduceLE,Int.reduceEq,Int.reduceToNat,reduceCtorEq,reduceIte,Nat.zero_add,Nat.add_zero, *]
                rw [← HR.out]; exact RC_ret rfl (by rw [HF2.out, hc1, hc2, hc3, hc4]; rfl)
              · simp only [aUn_not, aPick_b, bindP_some, Bool.not_true, cond_false, guardP_on, List.getD_cons_succ, List.getD_cons_zero, aFad_rf, Nat.zero_add, l8, l9, n9, binS_neq, bin_gtr, aEqb_b, bb, if_true]
                have hj : joinF x = ((!decide (x.join = [])) == decide (0 < (x.on.length : Int))) := by rw [HJ'.out, decide_not]
                cases hc5 : joinF x
                · rw [hc5] at hj
                  rw [← hj, Bool.not_false, COND_true]
                  rw [← HR.out]; exact RC_ret rfl (by rw [HF2.out, hc1, hc2, hc3, hc4, hc5]; rfl)
                · rw [hc5] at hj
                  rw [← hj, Bool.not_true, COND_false]
                  have hF3 := HF2.out
                  rw [hc1, hc2, hc3, hc4, hc5] at hF3
                  simp only [Bool.and_self, Bool.true_eq_false, if_false] at hF3
                  rw [firstBad_flat] at hF3
                  have HF3 := Lib.hid hF3
                  clear hF3 HF2 HJ' HLM hj hc1 hc2 hc3 hc4 hc5 HCo HNa HLi l8 l9 n9 hld14
                  refine LOOP_list x.rows (fun i st => ∃ a b c d, st = [a, b, c, d, .sc (.int .i64 i)] ∧ firstBad (x.rows.take i).flatten = 0) ⟨_, _, _, _, rfl, rfl⟩ ?_ ?_
                  · rintro i l K st n' hx hi hi' hn' ⟨a, b, c, d, rfl, hz⟩ hK
                    have HK := Lib.hid hK; clear hK
                    have HX := Lib.hid (HRow.out l (List.mem_of_getElem? hx))
                    have HN := Lib.hid (flat_next hx hz)
                    have HS := Lib.hid (flat_stop hx hz); clear hz
                    have l5 : aLd σ none (.rf 0 14 0 5) = some (.tr (x.rows.map encRx)) := ld_box h0 rfl
                    have n5 := len_tr x.rows encRx
                    have i5 : aIad 1 (.tr (x.rows.map encRx)) (.sc (.int .i64 i)) = some (.fp [.tr (l.map encE)]) := by rw [aIad_tr, if_pos (by omega), Int.toNat_natCast, List.getElem?_map, hx]; rfl
                    rw [lb_ref04_Check8]
                    simp only [List.getD_cons_succ, List.getD_cons_zero, aFad_rf, Nat.zero_add, bindP_some, l5, n5]
                    intro _
                    rw [bindP_ltI, COND_yes hi', i5, bindP_some, show aLd σ none (.fp [.tr (l.map encE)]) = some (.tr (l.map encE)) from rfl, bindP_some]
                    refine CALL_con0 HX.out rfl ?_
                    clear l5 n5 i5
                    by_cases hz : firstBad l = 0
                    · rw [kc_ref04_Check3, onEnd_ret]
                      simp (maxSteps:=1000000) (disch:=omega) only [decide_true,decide_false,List.getD_cons_succ,List.getD_cons_zero,go_sem,wrapI,wrapB,upd_is,upd_not,Nat.reduceAdd,Nat.reduceSub,Nat.reduceMul,Nat.reduceLeDiff,Nat.reduceEqDiff,Int.reduceAdd,Int.reduceSub,Int.reduceMul,Int.reduceNeg,Int.reduceLT,Int.reduceLE,Int.reduceEq,Int.reduceToNat,reduceCtorEq,reduceIte,Nat.zero_add,Nat.add_zero, *]
                      exact HK.out _ _ (Nat.le_refl _) ⟨_, _, _, _, rfl, by rw [HN.out]; exact hz⟩
                    · rw [kc_ref04_Check3, onEnd_ret]
                      simp (maxSteps:=1000000) (disch:=omega) only [decide_true,decide_false,List.getD_cons_succ,List.getD_cons_zero,go_sem,wrapI,wrapB,upd_is,upd_not,Nat.reduceAdd,Nat.reduceSub,Nat.reduceMul,Nat.reduceLeDiff,Nat.reduceEqDiff,Int.reduceAdd,Int.reduceSub,Int.reduceMul,Int.reduceNeg,Int.reduceLT,Int.reduceLE,Int.reduceEq,Int.reduceToNat,reduceCtorEq,reduceIte,Nat.zero_add,Nat.add_zero, *]
                      rw [← HR.out]; exact RC_ret rfl (by rw [HF3.out, HS.out hz, if_pos hz, if_pos hz])
                  · rintro K st n' hn' ⟨a, b, c, d, rfl, hz⟩
                    rw [List.take_length] at hz
                    have hF3 := HF3.out
                    rw [hz] at hF3
                    have HF4 := Lib.hid hF3; clear hF3 HF3 hz
                    have l5 : aLd σ none (.rf 0 14 0 5) = some (.tr (x.rows.map encRx)) := ld_box h0 rfl
                    have n5 := len_tr x.rows encRx
                    rw [lb_ref04_Check8]
                    simp only [List.getD_cons_succ, List.getD_cons_zero, aFad_rf, Nat.zero_add, bindP_some, l5, n5]
                    intro _
                    rw [bindP_ltI, COND_no (Int.lt_irrefl _)]
                    clear l5 n5
                    refine LOOP_list x.sets (fun i st => ∃ a b c d, st = [a, b, c, d, .sc (.int .i64 i)] ∧ firstBad ((x.sets.take i).map (·.ex)) = 0) ⟨_, _, _, _, rfl, rfl⟩ ?_ ?_
                    · rintro i s K st n'' hx hi hi' hn'' ⟨a, b, c, d, rfl, hz⟩ hK
                      have HK := Lib.hid hK; clear hK
                      have HX := Lib.hid (HSet.out s (List.mem_of_getElem? hx))
                      have HN := Lib.hid (sets_next hx hz)
                      have HS := Lib.hid (sets_stop hx hz); clear hz
                      have l6 : aLd σ none (.rf 0 14 0 6) = some (.tr (x.sets.map encS)) := ld_box h0 rfl
                      have n6 := len_tr x.sets encS
                      have i6 : aIad 8 (.tr (x.sets.map encS)) (.sc (.int .i64 i)) = some (.fp (encS s)) := by rw [aIad_tr, if_pos (by omega), Int.toNat_natCast, List.getElem?_map, hx]; simp [encS_len]
                      rw [lb_ref04_Check7]
                      simp only [List.getD_cons_succ, List.getD_cons_zero, aFad_rf, Nat.zero_add, bindP_some, l6, n6]
                      intro _
                      rw [bindP_ltI, COND_yes hi', i6, bindP_some, show aFad 1 (.fp (encS s)) = some (.fp (encE s.ex)) from by simp [aFad, encS, encE_eq], bindP_some, show aLd σ (some 7) (.fp (encE s.ex)) = some (.ag (encE s.ex)) from by simp [aLd, Am.part, encE_eq], bindP_some]
                      refine CALL_con0 HX.out (by simp only [List.append_nil, brwL_cons, brwL_nil, brw_ag, encE_brw, Option.map_some]) ?_
                      clear l6 n6 i6
                      rw [kc_ref04_Check4, onEnd_ret]
                      change bindP (semBin .neq (.sc (.int .i64 (exErr s.ex))) _) _
                      by_cases hz : exErr s.ex = 0
                      · simp (maxSteps:=1000000) (disch:=omega) only [decide_true,decide_false,List.getD_cons_succ,List.getD_cons_zero,go_sem,wrapI,wrapB,upd_is,upd_not,Nat.reduceAdd,Nat.reduceSub,Nat.reduceMul,Nat.reduceLeDiff,Nat.reduceEqDiff,Int.reduceAdd,Int.reduceSub,Int.reduceMul,Int.reduceNeg,Int.reduceLT,Int.reduceLE,Int.reduceEq,Int.reduceToNat,reduceCtorEq,reduceIte,Nat.zero_add,Nat.add_zero, *]
                        exact HK.out _ _ (Nat.le_refl _) ⟨_, _, _, _, rfl, by rw [HN.out]; exact hz⟩
                      · simp (maxSteps:=1000000) (disch:=omega) only [decide_true,decide_false,List.getD_cons_succ,List.getD_cons_zero,go_sem,wrapI,wrapB,upd_is,upd_not,Nat.reduceAdd,Nat.reduceSub,Nat.reduceMul,Nat.reduceLeDiff,Nat.reduceEqDiff,Int.reduceAdd,Int.reduceSub,Int.reduceMul,Int.reduceNeg,Int.reduceLT,Int.reduceLE,Int.reduceEq,Int.reduceToNat,reduceCtorEq,reduceIte,Nat.zero_add,Nat.add_zero, *]
                        rw [← HR.out]; exact RC_ret rfl (by
                          have h := HF4.out
                          rw [HS.out hz] at h
                          simp [hz] at h
                          rw [h]; rfl)
                    · rintro K st n'' hn'' ⟨a, b, c, d, rfl, hz⟩
                      rw [List.take_length] at hz
                      have hF4 := HF4.out
                      rw [hz] at hF4
                      have HF5 := Lib.hid hF4; clear hF4 HF4 hz
                      have l6 : aLd σ none (.rf 0 14 0 6) = some (.tr (x.sets.map encS)) := ld_box h0 rfl
                      have n6 := len_tr x.sets encS
                      have l7 : aLd σ none (.rf 0 14 0 7) = some (.tr (x.items.map encE)) := ld_box h0 rfl
                      have l9 : aLd σ none (.rf 0 14 0 9) = some (.tr (x.on.map encE)) := ld_box h0 rfl
                      have l10 : aLd σ none (.rf 0 14 0 10) = some (.tr (x.where_.map encE)) := ld_box h0 rfl
                      have l11 : aLd σ none (.rf 0 14 0 11) = some (.tr (x.group.map encE)) := ld_box h0 rfl
                      rw [lb_ref04_Check7]
                      simp only [List.getD_cons_succ, List.getD_cons_zero, aFad_rf, Nat.zero_add, bindP_some, l6, n6]
                      intro _
                      rw [bindP_ltI, COND_no (Int.lt_irrefl _)]
                      simp only [bindP_some, l7, l9, l10, l11]
                      clear l6 n6 l7 l9 l10 l11
                      change bindS (some (.ow _ 1 0 4, [(_, some (Ob.c ⟨1, [x.items, x.on, x.where_, x.group].map encRx, true, true⟩))])) _ _ _
                      rw [bindS_some]
                      generalize hτ : applyW _ _ = τ
                      have h1 : τ n'' = some (.c ⟨1, [x.items, x.on, x.where_, x.group].map encRx, true, true⟩) := by rw [← hτ]; simp only [applyW_cons, applyW_nil]; exact upd_is rfl
                      have h0' : τ 0 = some (.c ⟨14, [encSm x], true, false⟩) := by rw [← hτ]; simp only [applyW_cons, applyW_nil]; rw [upd_not (by omega)]; exact h0
                      clear hτ h0
                      have HL4 := Lib.hid (show ∀ l ∈ [x.items, x.on, x.where_, x.group], Con Tryd.prog 38 [.tr (l.map encE)] (.ret (.sc (.int .i64 (firstBad l)))) from by
                        intro l hl
                        simp only [List.mem_cons, List.not_mem_nil, or_false] at hl
                        rcases hl with rfl | rfl | rfl | rfl
                        · exact HIt.out
                        · exact HOn.out
                        · exact HWh.out
                        · exact HGr.out)
                      refine LOOP_list [x.items, x.on, x.where_, x.group] (fun i st => ∃ a b c d, st = [a, b, c, d, .sc (.int .i64 i)] ∧ firstBad ([x.items, x.on, x.where_, x.group].take i).flatten = 0) ⟨_, _, _, _, rfl, rfl⟩ ?_ ?_
                      · rintro i l K st n' hx hi hi' hn' ⟨a, b, c, d, rfl, hz⟩ hK
                        have HK := Lib.hid hK; clear hK
                        have HX := Lib.hid (HL4.out l (List.mem_of_getElem? hx))
                        have HN := Lib.hid (flat_next hx hz)
                        have HS := Lib.hid (flat_stop hx hz); clear hz
                        have hi4 : i < 4 := hi
                        have i4 : aIad 1 (.ow n'' 1 0 4) (.sc (.int .i64 i)) = some (.rf n'' 1 i 0) := by rw [aIad_ow, if_pos ⟨rfl, by omega, by omega⟩]; simp
                        have l4 : aLd τ none (.rf n'' 1 i 0) = some (.tr (l.map encE)) := by
                          rw [aLd_rf, h1]
                          simp only [if_true, List.getElem?_map, hx, Option.map_some, part_none, encRx]
                          rfl
                        rw [lb_ref04_Check6]
                        simp only [List.getD_cons_succ, List.getD_cons_zero, aFad_rf, Nat.zero_add]
                        rw [bindP_ltI, COND_yes (by omega), i4, bindP_some, l4, bindP_some]
                        refine CALL_con0 HX.out rfl ?_
                        clear i4 l4 h1 hi hi' hx
                        by_cases hz : firstBad l = 0
                        · rw [kc_ref04_Check5, onEnd_ret]
                          simp (maxSteps:=1000000) (disch:=omega) only [decide_true,decide_false,List.getD_cons_succ,List.getD_cons_zero,go_sem,wrapI,wrapB,upd_is,upd_not,Nat.reduceAdd,Nat.reduceSub,Nat.reduceMul,Nat.reduceLeDiff,Nat.reduceEqDiff,Int.reduceAdd,Int.reduceSub,Int.reduceMul,Int.reduceNeg,Int.reduceLT,Int.reduceLE,Int.reduceEq,Int.reduceToNat,reduceCtorEq,reduceIte,Nat.zero_add,Nat.add_zero, *]
                          exact HK.out _ _ (Nat.le_refl _) ⟨_, _, _, _, rfl, by rw [HN.out]; exact hz⟩
                        · rw [kc_ref04_Check5, onEnd_ret]
                          simp (maxSteps:=1000000) (disch:=omega) only [decide_true,decide_false,List.getD_cons_succ,List.getD_cons_zero,go_sem,wrapI,wrapB,upd_is,upd_not,Nat.reduceAdd,Nat.reduceSub,Nat.reduceMul,Nat.reduceLeDiff,Nat.reduceEqDiff,Int.reduceAdd,Int.reduceSub,Int.reduceMul,Int.reduceNeg,Int.reduceLT,Int.reduceLE,Int.reduceEq,Int.reduceToNat,reduceCtorEq,reduceIte,Nat.zero_add,Nat.add_zero, *]
                          rw [← HR.out]; exact RC_ret rfl (by
                            have h := HF5.out
                            rw [HS.out hz] at h
                            simp [hz] at h
                            rw [h])
                      · rintro K st n' hn' ⟨a, b, c, d, rfl, hz⟩
                        have hz' : firstBad [x.items, x.on, x.where_, x.group].flatten = 0 := hz
                        have hF5 := HF5.out
                        rw [hz'] at hF5
                        simp only [ne_eq, not_true_eq_false, if_false] at hF5
                        have l11 : aLd τ none (.rf 0 14 0 11) = some (.tr (x.group.map encE)) := ld_box h0' rfl
                        have n11 := len_tr x.group encE
                        rw [lb_ref04_Check6]
                        simp only [List.getD_cons_succ, List.getD_cons_zero, aFad_rf, Nat.zero_add, List.length_cons, List.length_nil]
                        rw [bindP_ltI, COND_no (by omega)]
                        simp only [bindP_some, l11, n11]
                        intro _
                        cases hgr : x.group with
                        | nil =>
                          rw [hgr] at hF5
                          have HF6 := Lib.hid hF5; clear hF5 HF5 hz hz'
                          rw [bin_gtr, bindP_some, show decide ((0 : Int) < (([] : List Ep).length : Int)) = false from rfl]
                          simp only [guardP_f, aPick_b, cond_false, bindP_some, COND_false]
                          rw [← HR.out]; exact RC_ret rfl (by rw [HF6.out])
                        | cons e l =>
                          rw [hgr] at hF5
                          rw [hgr] at l11
                          have i7 : aIad 7 (.tr ((e :: l).map encE)) (.sc (.int .i64 0)) = some (.fp (encE e)) := by rw [aIad_tr, if_pos (by omega)]; simp [encE_len]
                          have a7 : aFad 0 (.fp (encE e)) = some (.fp (encE e)) := by simp [aFad, encE_len]
                          have b7 : aLd τ none (.fp (encE e)) = some (.sc (.int .i64 e.op)) := by simp [aLd, part_none, encE_eq]
                          rw [bin_gtr, bindP_some, decide_eq_true (by simp only [List.length_cons]; omega)]
                          simp only [guardP_on, bindP_some, l11, i7, a7, b7, bin_neq, aPick_b, cond_true]
                          change checkF x = if ¬ e.op = 1 then 9 else 0 at hF5
                          by_cases ho : e.op = 1
                          · rw [if_neg (by simp [ho])] at hF5
                            rw [show (!decide (e.op = 1)) = false by simp [ho], COND_false]
                            rw [← HR.out]; exact RC_ret rfl (by rw [hF5])
                          · rw [if_pos ho] at hF5
                            rw [show (!decide (e.op = 1)) = true by simp [ho], COND_true]
                            rw [← HR.out]; exact RC_ret rfl (by rw [hF5])
      have HRest := Lib.hid rest; clear rest
      rw [sh_ref04_Check]
      change bindS (some (.rf 0 14 0 0, [(0, some (Ob.c ⟨14, [encSm x], true, false⟩))])) _ _ _
      rw [bindS_some]
      generalize hτ : applyW _ _ = τ
      have h0 : τ 0 = some (.c ⟨14, [encSm x], true, false⟩) := by rw [← hτ]; simp only [applyW_cons, applyW_nil]; exact upd_is rfl
      clear hτ
      have l0 : aLd τ none (.rf 0 14 0 0) = some (.sc (.int .i64 x.kind)) := ld_box h0 h0e
      have l13 : aLd τ none (.rf 0 14 0 13) = some (.sc (.int .i64 x.limit)) := ld_box h0 h13e
      simp only [aFad_rf, Nat.zero_add, bindP_some, l0, l13]
      rw [bindP_ltI, decide_eq_false h1]
      simp only [guardP_on, bindP_some, l0, bin_gtr, aPick_b, cond_false]
      rw [decide_eq_false h2, COND_false, bindP_eqI, JOIN_eq, bindP_eqI]
      have hlm := HLM.out
      by_cases h7 : x.kind = 7
      · rw [COND_yes h7, bin_geq, bindP_some]
        rw [if_pos h7] at hlm
        by_cases hl : -1 ≤ x.limit
        · rw [decide_eq_true hl] at hlm ⊢
          simp only [guardP_on, bindP_some, l13, bin_leq, aPick_b, cond_true]
          refine HRest.out _ (.sc (.bool (decide (x.kind = 7)))) _ _ ?_ h0 (by omega)
          rw [hlm]; rfl
        · rw [decide_eq_false hl] at hlm ⊢
          simp only [guardP_f, bindP_some, aPick_b, cond_false]
          refine HRest.out _ (.sc (.bool (decide (x.kind = 7)))) _ _ ?_ h0 (by omega)
          rw [hlm]; rfl
      · rw [COND_no h7]
        rw [if_neg h7] at hlm
        refine HRest.out _ (.sc (.bool (decide (x.kind = 7)))) _ _ ?_ h0 (by omega)
        rw [hlm]
end Go.Proofs.YtodoejfkjimeaaaDoor

set_option linter.unusedSimpArgs false
set_option linter.unusedVariables false
set_option maxRecDepth 100000
namespace Go.Proofs.YtodoejfkjimeaaaDoor
open Go Go.RowKit Am
attribute [-go_sem] guardP_if guardK_if guardD_if COND_bool
attribute [local go_sem low] guardP_if guardK_if guardD_if COND_bool
theorem or5 {b c : Bool} {o1 o3 : Option AV} {f2 f4 : AV → Option AV} {f5 : AV → AV → Option AV} {p1 p2 p3 p4 : AV} (h1 : o1 = some p1) (h2 : f2 p1 = some p2) (h3 : o3 = some p3) (h4 : f4 p3 = some p4) (h5 : f5 p2 p4 = some (.sc (.bool c))) (K : AV → Prop) (hK : K (.sc (.bool (b || c)))) :
    guardP (.sc (.bool b)) false o1 fun x1 => guardP (.sc (.bool b)) false (f2 x1) fun x2 => guardP (.sc (.bool b)) false o3 fun x3 => guardP (.sc (.bool b)) false (f4 x3) fun x4 => guardP (.sc (.bool b)) false (f5 x2 x4) fun x5 =>
      bindP (aPick (.sc (.bool b)) (.sc (.bool true)) x5) K := by
  cases b
  · simp only [guardP_on, h1, h2, h3, h4, h5, bindP_some, aPick_b, cond_false]; exact hK
  · simp only [guardP_t, bindP_some, aPick_b, cond_true]; exact hK
theorem or7 {b c : Bool} {o1 o4 : Option AV} {f2 f3 f5 f6 : AV → Option AV} {f7 : AV → AV → Option AV} {p1 p2 p3 p4 p5 p6 : AV} (h1 : o1 = some p1) (h2 : f2 p1 = some p2) (h3 : f3 p2 = some p3) (h4 : o4 = some p4) (h5 : f5 p4 = some p5) (h6 : f6 p5 = some p6) (h7 : f7 p3 p6 = some (.sc (.bool c))) (K : AV → Prop) (hK : K (.sc (.bool (b || c)))) :
    guardP (.sc (.bool b)) false o1 fun x1 => guardP (.sc (.bool b)) false (f2 x1) fun x2 => guardP (.sc (.bool b)) false (f3 x2) fun x3 => guardP (.sc (.bool b)) false o4 fun x4 => guardP (.sc (.bool b)) false (f5 x4) fun x5 => guardP (.sc (.bool b)) false (f6 x5) fun x6 => guardP (.sc (.bool b)) false (f7 x3 x6) fun x7 =>
      bindP (aPick (.sc (.bool b)) (.sc (.bool true)) x7) K := by
  cases b
  · simp only [guardP_on, h1, h2, h3, h4, h5, h6, h7, bindP_some, aPick_b, cond_false]; exact hK
  · simp only [guardP_t, bindP_some, aPick_b, cond_true]; exact hK
theorem apt0 (r r' : List Nat) : Apt (names []) r (names []) r' := by simp [Apt, names]
theorem eqs_C (x y : Cl) : aEqs [2, 0, 1] true (.ag (encC x)) (.ag (encC y)) = some (.sc (.bool (!eqB (x = y)))) := by
  obtain ⟨x0, x1, x2⟩ := x
  obtain ⟨y0, y1, y2⟩ := y
  have e : eqB (Cl.mk x0 x1 x2 = Cl.mk y0 y1 y2) = (decide (x0 = y0) && decide (x1 = y1) && decide (x2 = y2)) := by
    rw [Bool.eq_iff_iff, eqB_iff]; simp [and_assoc]
  rw [e]
  cases x2 <;> cases y2 <;> simp [aEqs, encC, eqK, bb, beqL, beqI] <;> (try rw [Bool.and_comm]) <;> rfl
theorem eqs_O (x y : Od) : aEqs [0, 1] true (.ag (encO x)) (.ag (encO y)) = some (.sc (.bool (!eqB (x = y)))) := by
  obtain ⟨x1, x2⟩ := x
  obtain ⟨y1, y2⟩ := y
  have e : eqB (Od.mk x1 x2 = Od.mk y1 y2) = (decide (x1 = y1) && decide (x2 = y2)) := by
    rw [Bool.eq_iff_iff, eqB_iff]; simp
  rw [e]
  cases x2 <;> cases y2 <;> simp [aEqs, encO, eqK, bb, beqI] <;> rfl
def scB (a b : Sm) : Bool := !decide (a.kind = b.kind) || !decide (a.table = b.table) || !decide (a.key = b.key) || !decide (a.index = b.index) || !decide (a.join = b.join) || !decide (a.limit = b.limit)
def lnB (a b : Sm) : Bool := !decide ((a.columns.length : Int) = b.columns.length) || !decide ((a.rows.length : Int) = b.rows.length) || !decide ((a.sets.length : Int) = b.sets.length) || !decide ((a.order.length : Int) = b.order.length)
theorem scB_ne {a b : Sm} (h : scB a b = true) : a ≠ b := by
  rintro rfl; simp [scB] at h
theorem lnB_ne {a b : Sm} (h : lnB a b = true) : a ≠ b := by
  rintro rfl; simp [lnB] at h
theorem lnB_eq {a b : Sm} (h : lnB a b = false) : a.columns.length = b.columns.length ∧ a.rows.length = b.rows.length ∧ a.sets.length = b.sets.length ∧ a.order.length = b.order.length := by
  simp [lnB] at h; omega
theorem sm_one {a b : Sm} (h : scB a b = false) (h1 : a.columns = b.columns) (h2 : a.rows = b.rows) (h3 : a.sets = b.sets) (h4 : a.order = b.order) (h5 : a.items = b.items) (h6 : a.on = b.on) (h7 : a.where_ = b.where_) (h8 : a.group = b.group) : a = b := by
  obtain ⟨a1, a2, a3, a4, a5, a6, a7, a8, a9, a10, a11, a12, a13, a14⟩ := a
  obtain ⟨b1, b2, b3, b4, b5, b6, b7, b8, b9, b10, b11, b12, b13, b14⟩ := b
  simp [scB] at h h1 h2 h3 h4 h5 h6 h7 h8
  simp_all
theorem bin_addI {i : Nat} {m : Nat} (h : (i : Int) < m) {σ : Hp} {rows : List (List AV)} (hb : bnd σ (.tr rows)) (hm : rows.length = m) : semBin .add (.sc (.int .i64 i)) (.sc (.int .i64 1)) = some (.sc (.int .i64 ((i + 1 : Nat) : Int))) := by
  have hb' : rows.length ≤ 4611686018427387904 := hb
  rw [bin_add, wrapI (by omega) (by omega)]; rfl
theorem rfAlikes_con2 (l m : List Ep) : Con Tryd.prog 67 [.tr (l.map encE), .tr (m.map encE)] (.ret (.sc (.bool (sameL l m)))) := rfAlikes_con l m (fun a _ b => rfAlikeExpr_con a b)
theorem eqB_not {p : Prop} (h : eqB p = false) : ¬ p := fun hp => by rw [eqB_t hp] at h; cases h
set_option maxHeartbeats 8000000 in
theorem rfAlike_con (a b : Sm) : Con Tryd.prog 47 [.ag (encSm a), .ag (encSm b)] (.ret (.sc (.bool (eqB (a = b))))) := by
  refine con_of (by_ref04_Alike ?_)
  generalize hR : RC _ = R
  have HR := Lib.hid hR; clear hR
  rw [sh_ref04_Alike]
  change bindS (some (.rf 0 14 0 0, [(0, some (Ob.c ⟨14, [encSm a], true, false⟩))])) _ _ _
  rw [bindS_some]
  change bindS (some (.rf 16 14 0 0, [(16, some (Ob.c ⟨14, [encSm b], true, false⟩))])) _ _ _
  rw [bindS_some]
  generalize hτ : applyW _ _ = τ
  have hA : τ 0 = some (.c ⟨14, [encSm a], true, false⟩) := by rw [← hτ]; simp only [applyW_cons, applyW_nil]; rw [upd_not (by omega)]; exact upd_is rfl
  have hB : τ 16 = some (.c ⟨14, [encSm b], true, false⟩) := by rw [← hτ]; simp only [applyW_cons, applyW_nil]; exact upd_is rfl
  clear hτ
  have no : a ≠ b → ∀ σ n, R (.ret (.sc (.bool false))) σ n := fun h σ n => by rw [← HR.out, eqB_f h]; exact RC_ret rfl rfl
  have NO := Lib.hid no; clear no
  rw [aFad_rf, bindP_some, ld_box hA rfl, bindP_some, aFad_rf, bindP_some, ld_box hB rfl, bindP_some, bin_neq, bindP_some]
  refine or5 rfl (ld_box hA rfl) rfl (ld_box hB rfl) (binS_neq _ _) _ ?_
  refine or5 rfl (ld_box hA rfl) rfl (ld_box hB rfl) (binS_neq _ _) _ ?_
  refine or5 rfl (ld_box hA rfl) rfl (ld_box hB rfl) (binS_neq _ _) _ ?_
  refine or5 rfl (ld_box hA rfl) rfl (ld_box hB rfl) (binS_neq _ _) _ ?_
  refine or5 rfl (ld_box hA rfl) rfl (ld_box hB rfl) (bin_neq _ _ _) _ ?_
  change COND (.sc (.bool (scB a b))) _ _
  cases hsc : scB a b with
  | true => rw [COND_true]; exact NO.out (scB_ne hsc) _ _
  | false =>
  rw [COND_false, aFad_rf, bindP_some, ld_box hA rfl, bindP_some, len_tr, bindP_some]
  intro _
  rw [aFad_rf, bindP_some, ld_box hB rfl, bindP_some, len_tr, bindP_some]
  intro _
  rw [bin_neq, bindP_some]
  refine or7 rfl (ld_box hA rfl) (len_tr _ _) rfl (ld_box hB rfl) (len_tr _ _) (bin_neq _ _ _) _ ?_
  refine or7 rfl (ld_box hA rfl) (len_tr _ _) rfl (ld_box hB rfl) (len_tr _ _) (bin_neq _ _ _) _ ?_
  refine or7 rfl (ld_box hA rfl) (len_tr _ _) rfl (ld_box hB rfl) (len_tr _ _) (bin_neq _ _ _) _ ?_
  change COND (.sc (.bool (lnB a b))) _ _
  cases hln : lnB a b with
  | true => rw [COND_true]; exact NO.out (lnB_ne hln) _ _
  | false =>
  rw [COND_false]
  obtain ⟨ln1, ln2, ln3, ln4⟩ := lnB_eq hln
  clear hln
  have a2 : aLd τ none (.rf 0 14 0 2) = some (.tr (a.columns.map encC)) := ld_box hA rfl
  have b2 : aLd τ none (.rf 16 14 0 2) = some (.tr (b.columns.map encC)) := ld_box hB rfl
  refine LOOP_list a.columns (fun i st => (∃ p q r, st = [p, q, r, .sc (.int .i64 i)]) ∧ a.columns.take i = b.columns.take i) ⟨⟨_, _, _, rfl⟩, rfl⟩ ?_ ?_
  · rintro i x K st n' hx hi hi' hn ⟨⟨p, q, r, rfl⟩, hal⟩ hK
    obtain ⟨y, hy⟩ : ∃ y, b.columns[i]? = some y := ⟨b.columns[i]'(by omega), List.getElem?_eq_getElem _⟩
    have ia : aIad 3 (.tr (a.columns.map encC)) (.sc (.int .i64 i)) = some (.fp (encC x)) := by rw [aIad_tr, if_pos (by omega), Int.toNat_natCast, List.getElem?_map, hx]; rfl
    have ib : aIad 3 (.tr (b.columns.map encC)) (.sc (.int .i64 i)) = some (.fp (encC y)) := by rw [aIad_tr, if_pos (by omega), Int.toNat_natCast, List.getElem?_map, hy]; rfl
    rw [lb_ref04_Alike10]
    simp only [List.getD_cons_succ, List.getD_cons_zero, aFad_rf, Nat.zero_add, bindP_some, a2, b2, len_tr]
    intro hbn
    rw [bindP_ltI, COND_yes hi', ia, bindP_some, show aLd τ (some 3) (.fp (encC x)) = some (.ag (encC x)) from rfl, bindP_some, ib, bindP_some, show aLd τ (some 3) (.fp (encC y)) = some (.ag (encC y)) from rfl, bindP_some, eqs_C, bindP_some]
    refine ⟨apt0 _ _, apt0 _ _, apt0 _ _, apt0 _ _, fun n_ hn_ => ?_⟩
    cases hq : eqB (x = y) with
    | false => rw [Bool.not_false, COND_true]; exact NO.out (fun e => take_ne hx hy (eqB_not hq) (by rw [e])) _ _
    | true =>
      rw [Bool.not_true, COND_false, bin_addI hi' hbn (List.length_map _), bindP_some]
      exact hK _ _ (by omega) ⟨⟨_, _, _, rfl⟩, take_eq hx hy hal (eqB_iff.1 hq)⟩
  rintro K st n' hn ⟨⟨p, q, r, rfl⟩, hcols⟩
  rw [List.take_length, List.take_of_length_le (by omega)] at hcols
  rw [lb_ref04_Alike10]
  simp only [List.getD_cons_succ, List.getD_cons_zero, aFad_rf, Nat.zero_add, bindP_some, a2, b2, len_tr]
  intro _
  rw [bindP_ltI, COND_no (Int.lt_irrefl _)]
  clear a2 b2
  have a5 : aLd τ none (.rf 0 14 0 5) = some (.tr (a.rows.map encRx)) := ld_box hA rfl
  have b5 : aLd τ none (.rf 16 14 0 5) = some (.tr (b.rows.map encRx)) := ld_box hB rfl
  refine LOOP_list a.rows (fun i st => (∃ p q r, st = [p, q, r, .sc (.int .i64 i)]) ∧ a.rows.take i = b.rows.take i) ⟨⟨_, _, _, rfl⟩, rfl⟩ ?_ ?_
  · rintro i x K st n' hx hi hi' hn ⟨⟨p, q, r, rfl⟩, hal⟩ hK
    obtain ⟨y, hy⟩ : ∃ y, b.rows[i]? = some y := ⟨b.rows[i]'(by omega), List.getElem?_eq_getElem _⟩
    have ia : aIad 1 (.tr (a.rows.map encRx)) (.sc (.int .i64 i)) = some (.fp [.tr (x.map encE)]) := by rw [aIad_tr, if_pos (by omega), Int.toNat_natCast, List.getElem?_map, hx]; rfl
    have ib : aIad 1 (.tr (b.rows.map encRx)) (.sc (.int .i64 i)) = some (.fp [.tr (y.map encE)]) := by rw [aIad_tr, if_pos (by omega), Int.toNat_natCast, List.getElem?_map, hy]; rfl
    have hC := rfAlikes_con2 x y
    rw [sameL_eqB] at hC
    rw [lb_ref04_Alike9]
    simp only [List.getD_cons_succ, List.getD_cons_zero, aFad_rf, Nat.zero_add, bindP_some, a5, b5, len_tr]
    intro hbn
    rw [bindP_ltI, COND_yes hi', ia, bindP_some, show aLd τ none (.fp [.tr (x.map encE)]) = some (.tr (x.map encE)) from rfl, bindP_some, ib, bindP_some, show aLd τ none (.fp [.tr (y.map encE)]) = some (.tr (y.map encE)) from rfl, bindP_some]
    refine callD_con0 hC rfl ?_
    rw [kd_ref04_Alike1, onEnd_ret, aUn_not, bindP_some]
    refine ⟨apt0 _ _, apt0 _ _, apt0 _ _, apt0 _ _, fun n_ hn_ => ?_⟩
    cases hq : eqB (x = y) with
    | false => rw [Bool.not_false, COND_true]; exact NO.out (fun e => take_ne hx hy (eqB_not hq) (by rw [e])) _ _
    | true =>
      simp only [List.getD_cons_succ, List.getD_cons_zero, applyW_nil]
      rw [Bool.not_true, COND_false, bin_addI hi' hbn (List.length_map _), bindP_some]
      exact hK _ _ (by omega) ⟨⟨_, _, _, rfl⟩, take_eq hx hy hal (eqB_iff.1 hq)⟩
  rintro K st n' hn ⟨⟨p, q, r, rfl⟩, hrows⟩
  rw [List.take_length, List.take_of_length_le (by omega)] at hrows
  rw [lb_ref04_Alike9]
  simp only [List.getD_cons_succ, List.getD_cons_zero, aFad_rf, Nat.zero_add, bindP_some, a5, b5, len_tr]
  intro _
  rw [bindP_ltI, COND_no (Int.lt_irrefl _)]
  clear a5 b5
  have a6 : aLd τ none (.rf 0 14 0 6) = some (.tr (a.sets.map encS)) := ld_box hA rfl
  have b6 : aLd τ none (.rf 16 14 0 6) = some (.tr (b.sets.map encS)) := ld_box hB rfl
  refine LOOP_list a.sets (fun i st => (∃ p q r, st = [p, q, r, .sc (.int .i64 i)]) ∧ a.sets.take i = b.sets.take i) ⟨⟨_, _, _, rfl⟩, rfl⟩ ?_ ?_
  · rintro i x K st n' hx hi hi' hn ⟨⟨p, q, r, rfl⟩, hal⟩ hK
    obtain ⟨y, hy⟩ : ∃ y, b.sets[i]? = some y := ⟨b.sets[i]'(by omega), List.getElem?_eq_getElem _⟩
    have ia : aIad 8 (.tr (a.sets.map encS)) (.sc (.int .i64 i)) = some (.fp (encS x)) := by rw [aIad_tr, if_pos (by omega), Int.toNat_natCast, List.getElem?_map, hx]; simp [encS_len]
    have ib : aIad 8 (.tr (b.sets.map encS)) (.sc (.int .i64 i)) = some (.fp (encS y)) := by rw [aIad_tr, if_pos (by omega), Int.toNat_natCast, List.getElem?_map, hy]; simp [encS_len]
    have f0 : ∀ z : Se, aFad 0 (.fp (encS z)) = some (.fp (encS z)) := fun z => by simp [aFad, encS_len]
    have f1 : ∀ z : Se, aFad 1 (.fp (encS z)) = some (.fp (encE z.ex)) := fun z => by simp [aFad, encS, encE_eq]
    have g0 : ∀ z : Se, aLd τ none (.fp (encS z)) = some (.s z.name) := fun z => by simp [aLd, encS, Am.part]
    have g1 : ∀ z : Se, aLd τ (some 7) (.fp (encE z.ex)) = some (.ag (encE z.ex)) := fun z => by simp [aLd, Am.part, encE_eq]
    have hC := rfAlikeExpr_con x.ex y.ex
    rw [sameF_eqB] at hC
    rw [lb_ref04_Alike8]
    simp only [List.getD_cons_succ, List.getD_cons_zero, aFad_rf, Nat.zero_add, bindP_some, a6, b6, len_tr]
    intro hbn
    rw [bindP_ltI, COND_yes hi', ia, bindP_some, f0, bindP_some, g0, bindP_some, ib, bindP_some, f0, bindP_some, g0, bindP_some, binS_neq, bindP_some]
    by_cases hnm : x.name = y.name
    · rw [show (!decide (x.name = y.name)) = false by simp [hnm]]
      simp only [guardP_on, guardD_on, bindP_some, a6, b6, ia, ib, f1, g1]
      refine callD_con0 hC (by simp only [brwL_cons, brwL_nil, brw_ag, encE_brw, List.append_nil, Option.map_some]) ?_
      rw [kd_ref04_Alike2, onEnd_ret]
      simp only [aUn_not, bindP_some, aPick_b, cond_false]
      refine ⟨apt0 _ _, apt0 _ _, apt0 _ _, apt0 _ _, apt0 _ _, apt0 _ _, apt0 _ _, apt0 _ _, fun n_ hn_ => ?_⟩
      cases hq : eqB (x.ex = y.ex) with
      | false => rw [Bool.not_false, COND_true]; exact NO.out (fun e => take_ne hx hy (fun e2 => eqB_not hq (by rw [e2])) (by rw [e])) _ _
      | true =>
        simp only [applyW_nil]
        rw [Bool.not_true, COND_false, bin_addI hi' hbn (List.length_map _), bindP_some]
        refine hK _ _ (by omega) ⟨⟨_, _, _, rfl⟩, take_eq hx hy hal ?_⟩
        obtain ⟨x1, x2⟩ := x
        obtain ⟨y1, y2⟩ := y
        have e2 := eqB_iff.1 hq
        simp only at hnm e2
        rw [hnm, e2]
    · rw [show (!decide (x.name = y.name)) = true by simp [hnm]]
      simp only [guardP_t, guardD_t, guardP_none, bindP_some, aPick_b, cond_true]
      refine ⟨apt0 _ _, apt0 _ _, apt0 _ _, apt0 _ _, apt0 _ _, apt0 _ _, apt0 _ _, apt0 _ _, fun n_ hn_ => ?_⟩
      rw [COND_true]; exact NO.out (fun e => take_ne hx hy (fun e2 => hnm (by rw [e2])) (by rw [e])) _ _
  rintro K st n' hn ⟨⟨p, q, r, rfl⟩, hsets⟩
  rw [List.take_length, List.take_of_length_le (by omega)] at hsets
  rw [lb_ref04_Alike8]
  simp only [List.getD_cons_succ, List.getD_cons_zero, aFad_rf, Nat.zero_add, bindP_some, a6, b6, len_tr]
  intro _
  rw [bindP_ltI, COND_no (Int.lt_irrefl _)]
  clear a6 b6
  have a12 : aLd τ none (.rf 0 14 0 12) = some (.tr (a.order.map encO)) := ld_box hA rfl
  have b12 : aLd τ none (.rf 16 14 0 12) = some (.tr (b.order.map encO)) := ld_box hB rfl
  refine LOOP_list a.order (fun i st => (∃ p q r, st = [p, q, r, .sc (.int .i64 i)]) ∧ a.order.take i = b.order.take i) ⟨⟨_, _, _, rfl⟩, rfl⟩ ?_ ?_
  · rintro i x K st n' hx hi hi' hn ⟨⟨p, q, r, rfl⟩, hal⟩ hK
    obtain ⟨y, hy⟩ : ∃ y, b.order[i]? = some y := ⟨b.order[i]'(by omega), List.getElem?_eq_getElem _⟩
    have ia : aIad 2 (.tr (a.order.map encO)) (.sc (.int .i64 i)) = some (.fp (encO x)) := by rw [aIad_tr, if_pos (by omega), Int.toNat_natCast, List.getElem?_map, hx]; rfl
    have ib : aIad 2 (.tr (b.order.map encO)) (.sc (.int .i64 i)) = some (.fp (encO y)) := by rw [aIad_tr, if_pos (by omega), Int.toNat_natCast, List.getElem?_map, hy]; rfl
    rw [lb_ref04_Alike7]
    simp only [List.getD_cons_succ, List.getD_cons_zero, aFad_rf, Nat.zero_add, bindP_some, a12, b12, len_tr]
    intro hbn
    rw [bindP_ltI, COND_yes hi', ia, bindP_some, show aLd τ (some 2) (.fp (encO x)) = some (.ag (encO x)) from rfl, bindP_some, ib, bindP_some, show aLd τ (some 2) (.fp (encO y)) = some (.ag (encO y)) from rfl, bindP_some, eqs_O, bindP_some]
    refine ⟨apt0 _ _, apt0 _ _, apt0 _ _, apt0 _ _, fun n_ hn_ => ?_⟩
    cases hq : eqB (x = y) with
    | false => rw [Bool.not_false, COND_true]; exact NO.out (fun e => take_ne hx hy (eqB_not hq) (by rw [e])) _ _
    | true =>
      rw [Bool.not_true, COND_false, bin_addI hi' hbn (List.length_map _), bindP_some]
      exact hK _ _ (by omega) ⟨⟨_, _, _, rfl⟩, take_eq hx hy hal (eqB_iff.1 hq)⟩
  rintro K st n' hn ⟨⟨p, q, r, rfl⟩, horder⟩
  rw [List.take_length, List.take_of_length_le (by omega)] at horder
  rw [lb_ref04_Alike7]
  simp only [List.getD_cons_succ, List.getD_cons_zero, aFad_rf, Nat.zero_add, bindP_some, a12, b12, len_tr]
  intro _
  rw [bindP_ltI, COND_no (Int.lt_irrefl _)]
  clear a12 b12
  have a7 : aLd τ none (.rf 0 14 0 7) = some (.tr (a.items.map encE)) := ld_box hA rfl
  have b7 : aLd τ none (.rf 16 14 0 7) = some (.tr (b.items.map encE)) := ld_box hB rfl
  have a9 : aLd τ none (.rf 0 14 0 9) = some (.tr (a.on.map encE)) := ld_box hA rfl
  have b9 : aLd τ none (.rf 16 14 0 9) = some (.tr (b.on.map encE)) := ld_box hB rfl
  have a10 : aLd τ none (.rf 0 14 0 10) = some (.tr (a.where_.map encE)) := ld_box hA rfl
  have b10 : aLd τ none (.rf 16 14 0 10) = some (.tr (b.where_.map encE)) := ld_box hB rfl
  have a11 : aLd τ none (.rf 0 14 0 11) = some (.tr (a.group.map encE)) := ld_box hA rfl
  have b11 : aLd τ none (.rf 16 14 0 11) = some (.tr (b.group.map encE)) := ld_box hB rfl
  have C1 := rfAlikes_con2 a.items b.items
  have C2 := rfAlikes_con2 a.on b.on
  have C3 := rfAlikes_con2 a.where_ b.where_
  have C4 := rfAlikes_con2 a.group b.group
  rw [sameL_eqB] at C1 C2 C3 C4
  simp only [bindP_some, a7, b7]
  refine CALL_con0 C1 rfl ?_
  rw [kc_ref04_Alike6, onEnd_ret]
  cases q1 : eqB (a.items = b.items) with
  | false =>
    simp only [guardP_f, guardK_f, aPick_b, bindP_some, cond_false]
    exact NO.out (fun e => eqB_not q1 (by rw [e])) _ _
  | true =>
  simp only [guardP_on, guardK_on, bindP_some, aFad_rf, Nat.zero_add, a9, b9]
  refine CALL_con0 C2 rfl ?_
  rw [kc_ref04_Alike3, onEnd_ret]
  cases q2 : eqB (a.on = b.on) with
  | false =>
    simp only [guardP_f, guardK_f, aPick_b, bindP_some, cond_false, cond_true]
    exact NO.out (fun e => eqB_not q2 (by rw [e])) _ _
  | true =>
  simp only [guardP_on, guardK_on, aPick_b, cond_true, bindP_some, aFad_rf, Nat.zero_add, a10, b10]
  refine CALL_con0 C3 rfl ?_
  rw [kc_ref04_Alike4, onEnd_ret]
  cases q3 : eqB (a.where_ = b.where_) with
  | false =>
    simp only [guardP_f, guardK_f, aPick_b, bindP_some, cond_false, cond_true]
    exact NO.out (fun e => eqB_not q3 (by rw [e])) _ _
  | true =>
  simp only [guardP_on, guardK_on, aPick_b, cond_true, bindP_some, aFad_rf, Nat.zero_add, a11, b11]
  refine CALL_con0 C4 rfl ?_
  rw [kc_ref04_Alike5, onEnd_ret]
  cases q4 : eqB (a.group = b.group) with
  | false =>
    exact NO.out (fun e => eqB_not q4 (by rw [e])) _ _
  | true =>
    rw [← HR.out, eqB_t (sm_one hsc hcols hrows hsets horder (eqB_iff.1 q1) (eqB_iff.1 q2) (eqB_iff.1 q3) (eqB_iff.1 q4))]
    exact RC_ret rfl rfl
end Go.Proofs.YtodoejfkjimeaaaDoor

set_option linter.unusedSimpArgs false
set_option linter.unusedVariables false
set_option maxRecDepth 100000
namespace Go.Proofs.YtodoejfkjimeaaaDoor
open Go Go.RowKit Am
attribute [-go_sem] guardP_if guardK_if guardD_if COND_bool
attribute [local go_sem low] guardP_if guardK_if guardD_if COND_bool
theorem and5 {b c : Bool} {o1 o3 : Option AV} {f2 f4 : AV → Option AV} {f5 : AV → AV → Option AV} {p1 p2 p3 p4 : AV} (h1 : o1 = some p1) (h2 : f2 p1 = some p2) (h3 : o3 = some p3) (h4 : f4 p3 = some p4) (h5 : f5 p2 p4 = some (.sc (.bool c))) (K : AV → Prop) (hK : K (.sc (.bool (b && c)))) :
    guardP (.sc (.bool b)) true o1 fun x1 => guardP (.sc (.bool b)) true (f2 x1) fun x2 => guardP (.sc (.bool b)) true o3 fun x3 => guardP (.sc (.bool b)) true (f4 x3) fun x4 => guardP (.sc (.bool b)) true (f5 x2 x4) fun x5 =>
      bindP (aPick (.sc (.bool b)) x5 (.sc (.bool false))) K := by
  cases b
  · simp only [guardP_f, bindP_some, aPick_b, cond_false]; exact hK
  · simp only [guardP_on, h1, h2, h3, h4, h5, bindP_some, aPick_b, cond_true]; exact hK
noncomputable def sameB (a b : Sm) : Bool := decide (checkF a = 0) && decide (checkF b = 0) && eqB (a = b)
def scA (a b : Sm) : Bool := decide (a.kind = b.kind) && decide (a.table = b.table) && decide (a.key = b.key) && decide (a.index = b.index) && decide (a.join = b.join) && decide (a.limit = b.limit)
theorem scA_not (a b : Sm) : scA a b = !scB a b := by
  unfold scA scB; simp [Bool.not_or]
set_option maxHeartbeats 8000000 in
theorem ssame_con (a b : Sm) (ha : SBd a) (hb : SBd b) : Con Tryd.prog 19 [.ag (encSm a), .ag (encSm b)] (.ret (.sc (.bool (sameB a b)))) := by
  refine con_of (by_syntax_Same ?_)
  generalize hR : RC _ = R
  have HR := Lib.hid hR; clear hR
  rw [sh_syntax_Same]
  change bindS (some (.rf 0 14 0 0, [(0, some (Ob.c ⟨14, [encSm a], true, false⟩))])) _ _ _
  rw [bindS_some]
  change bindS (some (.rf 16 14 0 0, [(16, some (Ob.c ⟨14, [encSm b], true, false⟩))])) _ _ _
  rw [bindS_some]
  generalize hτ : applyW _ _ = τ
  have hA : τ 0 = some (.c ⟨14, [encSm a], true, false⟩) := by rw [← hτ]; simp only [applyW_cons, applyW_nil]; rw [upd_not (by omega)]; exact upd_is rfl
  have hB : τ 16 = some (.c ⟨14, [encSm b], true, false⟩) := by rw [← hτ]; simp only [applyW_cons, applyW_nil]; exact upd_is rfl
  clear hτ
  have no : sameB a b = false → ∀ σ n, R (.ret (.sc (.bool false))) σ n := fun h σ n => by rw [← HR.out, h]; exact RC_ret rfl rfl
  have NO := Lib.hid no; clear no
  rw [show aLd τ (some 14) (.rf 0 14 0 0) = some (.ag (encSm a)) from by simp [aLd, hA, Am.part, encSm], bindP_some]
  refine CALL_con0 (check_con a ha) (by simp only [List.append_nil, brwL_cons, brwL_nil, brw_ag, smBrw, Option.map_some]) ?_
  rw [kc_syntax_Same10, onEnd_ret, bin_neq, bindP_some]
  by_cases hca : checkF a = 0
  · rw [show (!decide (checkF a = 0)) = false by simp [hca]]
    rw [guardP_on, show aLd τ (some 14) (.rf 16 14 0 0) = some (.ag (encSm b)) from by simp [aLd, hB, Am.part, encSm], bindP_some, guardK_on]
    refine CALL_con0 (check_con b hb) (by simp only [List.append_nil, brwL_cons, brwL_nil, brw_ag, smBrw, Option.map_some]) ?_
    rw [kc_syntax_Same1, onEnd_ret]
    simp only [guardP_on, bin_neq, bindP_some, aPick_b, cond_false]
    by_cases hcb : checkF b = 0
    · rw [show (!decide (checkF b = 0)) = false by simp [hcb], COND_false]
      have hs : sameB a b = eqB (a = b) := by simp [sameB, hca, hcb]
      rw [hs] at HR NO
      simp only [aFad_rf, Nat.zero_add, bindP_some]
      rw [ld_box hA rfl, bindP_some, ld_box hB rfl, bindP_some, bin_eql, bindP_some]
      refine and5 rfl (ld_box hA rfl) rfl (ld_box hB rfl) (binS_eql _ _) _ ?_
      refine and5 rfl (ld_box hA rfl) rfl (ld_box hB rfl) (binS_eql _ _) _ ?_
      refine and5 rfl (ld_box hA rfl) rfl (ld_box hB rfl) (binS_eql _ _) _ ?_
      refine and5 rfl (ld_box hA rfl) rfl (ld_box hB rfl) (binS_eql _ _) _ ?_
      refine and5 rfl (ld_box hA rfl) rfl (ld_box hB rfl) (bin_eql _ _ _) _ ?_
      have hsc : (decide (a.kind = b.kind) && decide (a.table = b.table) && decide (a.key = b.key) && decide (a.index = b.index) && decide (a.join = b.join) && decide (a.limit = b.limit)) = !scB a b := scA_not a b
      rw [hsc]
      cases hsc2 : scB a b with
      | true =>
        simp only [Bool.not_true, guardP_f, guardK_f, bindP_some, aPick_b, cond_false]
        exact NO.out (eqB_f (scB_ne hsc2)) _ _
      | false =>
      rw [Bool.not_false]
      have la2 : aLd τ none (.rf 0 14 0 2) = some (.tr (a.columns.map encC)) := ld_box hA rfl
      have lb2 : aLd τ none (.rf 16 14 0 2) = some (.tr (b.columns.map encC)) := ld_box hB rfl
      simp only [guardP_on, guardK_on, aPick_b, cond_true, bindP_some, aFad_rf, Nat.zero_add, la2, lb2]
      refine CALL_con0 (eqC_con a.columns b.columns) rfl ?_
      rw [kc_syntax_Same2, onEnd_ret]
      cases q2 : eqB (a.columns = b.columns) with
      | false =>
        try simp only [guardP_f, guardK_f, bindP_some, aPick_b, cond_false, cond_true]
        exact NO.out (eqB_f (fun e => eqB_not q2 (by rw [e]))) _ _
      | true =>
      have la12 : aLd τ none (.rf 0 14 0 12) = some (.tr (a.order.map encO)) := ld_box hA rfl
      have lb12 : aLd τ none (.rf 16 14 0 12) = some (.tr (b.order.map encO)) := ld_box hB rfl
      simp only [guardP_on, guardK_on, aPick_b, cond_true, bindP_some, aFad_rf, Nat.zero_add, la12, lb12]
      refine CALL_con0 (eqO_con a.order b.order) rfl ?_
      rw [kc_syntax_Same3, onEnd_ret]
      cases q12 : eqB (a.order = b.order) with
      | false =>
        try simp only [guardP_f, guardK_f, bindP_some, aPick_b, cond_false, cond_true]
        exact NO.out (eqB_f (fun e => eqB_not q12 (by rw [e]))) _ _
      | true =>
      have la5 : aLd τ none (.rf 0 14 0 5) = some (.tr (a.rows.map encRx)) := ld_box hA rfl
      have lb5 : aLd τ none (.rf 16 14 0 5) = some (.tr (b.rows.map encRx)) := ld_box hB rfl
      simp only [guardP_on, guardK_on, aPick_b, cond_true, bindP_some, aFad_rf, Nat.zero_add, la5, lb5]
      refine CALL_con0 (eqfRx_con a.rows b.rows 39 (fun l _ m => same1_con l m)) rfl ?_
      rw [kc_syntax_Same4, onEnd_ret]
      cases q5 : eqB (a.rows = b.rows) with
      | false =>
        try simp only [guardP_f, guardK_f, bindP_some, aPick_b, cond_false, cond_true]
        exact NO.out (eqB_f (fun e => eqB_not q5 (by rw [e]))) _ _
      | true =>
      have la6 : aLd τ none (.rf 0 14 0 6) = some (.tr (a.sets.map encS)) := ld_box hA rfl
      have lb6 : aLd τ none (.rf 16 14 0 6) = some (.tr (b.sets.map encS)) := ld_box hB rfl
      simp only [guardP_on, guardK_on, aPick_b, cond_true, bindP_some, aFad_rf, Nat.zero_add, la6, lb6]
      refine CALL_con0 (eqfS_con a.sets b.sets 46 (fun l _ m => same2_con l m)) rfl ?_
      rw [kc_syntax_Same5, onEnd_ret]
      cases q6 : eqB (a.sets = b.sets) with
      | false =>
        try simp only [guardP_f, guardK_f, bindP_some, aPick_b, cond_false, cond_true]
        exact NO.out (eqB_f (fun e => eqB_not q6 (by rw [e]))) _ _
      | true =>
      have la7 : aLd τ none (.rf 0 14 0 7) = some (.tr (a.items.map encE)) := ld_box hA rfl
      have lb7 : aLd τ none (.rf 16 14 0 7) = some (.tr (b.items.map encE)) := ld_box hB rfl
      simp only [guardP_on, guardK_on, aPick_b, cond_true, bindP_some, aFad_rf, Nat.zero_add, la7, lb7]
      refine CALL_con0 (same1_con a.items b.items) rfl ?_
      rw [kc_syntax_Same6, onEnd_ret]
      cases q7 : eqB (a.items = b.items) with
      | false =>
        try simp only [guardP_f, guardK_f, bindP_some, aPick_b, cond_false, cond_true]
        exact NO.out (eqB_f (fun e => eqB_not q7 (by rw [e]))) _ _
      | true =>
      have la9 : aLd τ none (.rf 0 14 0 9) = some (.tr (a.on.map encE)) := ld_box hA rfl
      have lb9 : aLd τ none (.rf 16 14 0 9) = some (.tr (b.on.map encE)) := ld_box hB rfl
      simp only [guardP_on, guardK_on, aPick_b, cond_true, bindP_some, aFad_rf, Nat.zero_add, la9, lb9]
      refine CALL_con0 (same1_con a.on b.on) rfl ?_
      rw [kc_syntax_Same7, onEnd_ret]
      cases q9 : eqB (a.on = b.on) with
      | false =>
        try simp only [guardP_f, guardK_f, bindP_some, aPick_b, cond_false, cond_true]
        exact NO.out (eqB_f (fun e => eqB_not q9 (by rw [e]))) _ _
      | true =>
      have la10 : aLd τ none (.rf 0 14 0 10) = some (.tr (a.where_.map encE)) := ld_box hA rfl
      have lb10 : aLd τ none (.rf 16 14 0 10) = some (.tr (b.where_.map encE)) := ld_box hB rfl
      simp only [guardP_on, guardK_on, aPick_b, cond_true, bindP_some, aFad_rf, Nat.zero_add, la10, lb10]
      refine CALL_con0 (same1_con a.where_ b.where_) rfl ?_
      rw [kc_syntax_Same8, onEnd_ret]
      cases q10 : eqB (a.where_ = b.where_) with
      | false =>
        try simp only [guardP_f, guardK_f, bindP_some, aPick_b, cond_false, cond_true]
        exact NO.out (eqB_f (fun e => eqB_not q10 (by rw [e]))) _ _
      | true =>
      have la11 : aLd τ none (.rf 0 14 0 11) = some (.tr (a.group.map encE)) := ld_box hA rfl
      have lb11 : aLd τ none (.rf 16 14 0 11) = some (.tr (b.group.map encE)) := ld_box hB rfl
      simp only [guardP_on, guardK_on, aPick_b, cond_true, bindP_some, aFad_rf, Nat.zero_add, la11, lb11]
      refine CALL_con0 (same1_con a.group b.group) rfl ?_
      rw [kc_syntax_Same9, onEnd_ret]
      cases q11 : eqB (a.group = b.group) with
      | false =>
        try simp only [guardP_f, guardK_f, bindP_some, aPick_b, cond_false, cond_true]
        exact NO.out (eqB_f (fun e => eqB_not q11 (by rw [e]))) _ _
      | true =>
      try simp only [aPick_b, cond_true, bindP_some]
      rw [← HR.out, eqB_t (sm_one hsc2 (eqB_iff.1 q2) (eqB_iff.1 q5) (eqB_iff.1 q6) (eqB_iff.1 q12) (eqB_iff.1 q7) (eqB_iff.1 q9) (eqB_iff.1 q10) (eqB_iff.1 q11))]
      exact RC_ret rfl rfl
    · rw [show (!decide (checkF b = 0)) = true by simp [hcb], COND_true]
      exact NO.out (by simp [sameB, hcb]) _ _
  · rw [show (!decide (checkF a = 0)) = true by simp [hca]]
    simp only [guardP_t, guardK_t, guardP_none, aPick_b, cond_true, bindP_some, COND_true]
    exact NO.out (by simp [sameB, hca]) _ _
set_option maxHeartbeats 8000000 in
theorem rfSSame_con (a b : Sm) (ha : SBd a) (hb : SBd b) (ga : SRg a) (gb : SRg b) : Con Tryd.prog 20 [.ag (encSm a), .ag (encSm b)] (.ret (.sc (.bool (sameB a b)))) := by
  refine con_of (by_ref04_Same ?_)
  generalize hR : RC _ = R
  have HR := Lib.hid hR; clear hR
  rw [sh_ref04_Same]
  change bindS (some (.rf 0 14 0 0, [(0, some (Ob.c ⟨14, [encSm a], true, false⟩))])) _ _ _
  rw [bindS_some]
  change bindS (some (.rf 16 14 0 0, [(16, some (Ob.c ⟨14, [encSm b], true, false⟩))])) _ _ _
  rw [bindS_some]
  generalize hτ : applyW _ _ = τ
  have hA : τ 0 = some (.c ⟨14, [encSm a], true, false⟩) := by rw [← hτ]; simp only [applyW_cons, applyW_nil]; rw [upd_not (by omega)]; exact upd_is rfl
  have hB : τ 16 = some (.c ⟨14, [encSm b], true, false⟩) := by rw [← hτ]; simp only [applyW_cons, applyW_nil]; exact upd_is rfl
  clear hτ
  have lA : aLd τ (some 14) (.rf 0 14 0 0) = some (.ag (encSm a)) := by simp [aLd, hA, Am.part, encSm]
  have lB : aLd τ (some 14) (.rf 16 14 0 0) = some (.ag (encSm b)) := by simp [aLd, hB, Am.part, encSm]
  have no : sameB a b = false → ∀ σ n, R (.ret (.sc (.bool false))) σ n := fun h σ n => by rw [← HR.out, h]; exact RC_ret rfl rfl
  have NO := Lib.hid no; clear no
  rw [lA, bindP_some]
  refine CALL_con0 (rfSCheck_con a ha ga) (by simp only [List.append_nil, brwL_cons, brwL_nil, brw_ag, smBrw, Option.map_some]) ?_
  rw [kc_ref04_Same3, onEnd_ret, bin_eql, bindP_some]
  by_cases hca : checkF a = 0
  · rw [decide_eq_true hca, guardP_on, lB, bindP_some, guardK_on]
    refine CALL_con0 (rfSCheck_con b hb gb) (by simp only [List.append_nil, brwL_cons, brwL_nil, brw_ag, smBrw, Option.map_some]) ?_
    rw [kc_ref04_Same1, onEnd_ret]
    simp only [guardP_on, bin_eql, bindP_some, aPick_b, cond_true]
    by_cases hcb : checkF b = 0
    · rw [decide_eq_true hcb]
      simp only [guardP_on, guardK_on, lA, lB, bindP_some]
      refine CALL_con0 (rfAlike_con a b) (by simp only [List.append_nil, brwL_cons, brwL_nil, brw_ag, smBrw, Option.map_some]) ?_
      rw [kc_ref04_Same2, onEnd_ret, ← HR.out]
      have hs : sameB a b = eqB (a = b) := by simp [sameB, hca, hcb]
      rw [hs]; exact RC_ret rfl rfl
    · rw [decide_eq_false hcb]
      simp only [guardP_f, guardK_f, guardP_none, aPick_b, cond_false, bindP_some]
      exact NO.out (by simp [sameB, hcb]) _ _
  · rw [decide_eq_false hca]
    simp only [guardP_f, guardK_f, guardP_none, aPick_b, cond_false, bindP_some]
    exact NO.out (by simp [sameB, hca]) _ _
end Go.Proofs.YtodoejfkjimeaaaDoor
