/- Packed by a program of this repo: Ud Vm Vn Vo. -/
import Derived.Test.YtodoejfkjimeaaaGreatDoorKTSw
import Derived.Test.YtodoejfkjimeaaaGreatDoorKTSh4d
import Derived.Test.YtodoejfkjimeaaaGreatDoorKTUe
import Derived.Test.YtodoejfkjimeaaaGreatDoorKTVg
import Derived.Test.YtodoejfkjimeaaaGreatDoorKTUa
set_option linter.unusedSimpArgs false
set_option linter.unusedVariables false
set_option maxRecDepth 100000
namespace Go.Proofs.YtodoejfkjimeaaaGreatDoor
open Go Go.RowKit Am
attribute [-go_sem] guardP_if guardK_if guardD_if COND_bool
attribute [local go_sem low] guardP_if guardK_if guardD_if COND_bool
attribute [local go_sem] wrapI wrapB upd_is upd_not Nat.zero_add Nat.add_zero
attribute [local go_sem_proc] Nat.reduceAdd Nat.reduceSub Nat.reduceMul Nat.reduceLeDiff Nat.reduceEqDiff Int.reduceAdd Int.reduceSub Int.reduceMul Int.reduceNeg Int.reduceLT Int.reduceLE Int.reduceEq Int.reduceToNat reduceCtorEq reduceIte
def limF (x : Sm) : Bool := if x.kind = 7 then decide (-1 ≤ x.limit) && decide (x.limit ≤ 2147483648) else decide (x.limit = 0)
def joinF (x : Sm) : Bool := decide (x.join ≠ []) == decide (0 < (x.on.length : Int))
theorem countF_iff (n m : Int) (a : Bool) (l : Int) : countF n m a l = true ↔ ((a = true → l ≤ n ∧ n ≤ m) ∧ (a = false → n = 0)) := by
  cases a <;> simp [countF]
set_option maxHeartbeats 4000000 in
theorem shape_ref (x : Sm) (h1 : 1 ≤ x.kind) (h2 : x.kind ≤ 10) : shapeF x = (countsF x && namesF x && lstF x && limF x && joinF x) := by
  obtain ⟨kind, table, columns, key, index, rows, sets, items, join, on, wh, group, order, limit⟩ := x
  simp only at h1 h2
  have hn : ∀ n m p : Bool, (n && m && p && (decide (join = []) || (decide (kind = 7) && nameL join))) = true → (join = [] ∨ kind = 7) := by
    intro n m p h
    simp at h
    rcases h.2 with h | h
    · exact .inl h
    · exact .inr h.1
  simp only [shapeF, countsF, cntF, lensF, namesF, lstF, limF, joinF]
  have hn' := hn (namedF table (decide (kind ≤ 7))) (namedF key (decide (kind = 1) || decide (kind = 2))) (namedF index (decide (kind = 2)))
  clear hn
  generalize (namedF table (decide (kind ≤ 7)) && namedF key (decide (kind = 1) || decide (kind = 2)) && namedF index (decide (kind = 2)) && (decide (join = []) || (decide (kind = 7) && nameL join))) = N at *
  generalize columns.any colBad = c1
  generalize rows.any rowBad = c2
  generalize sets.any setBad = c3
  generalize order.any ordBad = c4
  generalize (columns.length : Int) = l1
  generalize (rows.length : Int) = l2
  generalize (sets.length : Int) = l3
  generalize (items.length : Int) = l4
  generalize (wh.length : Int) = l6
  generalize (group.length : Int) = l7
  generalize (order.length : Int) = l8
  have l5 : 0 ≤ (on.length : Int) := by omega
  generalize (on.length : Int) = l5 at *
  have hj : join = [] ∨ join ≠ [] := Classical.em _
  rw [Bool.eq_iff_iff]
  have hk : kind = 1 ∨ kind = 2 ∨ kind = 3 ∨ kind = 4 ∨ kind = 5 ∨ kind = 6 ∨ kind = 7 ∨ kind = 8 ∨ kind = 9 ∨ kind = 10 := by omega
  rcases hj with hj | hj
  · rcases hk with rfl | rfl | rfl | rfl | rfl | rfl | rfl | rfl | rfl | rfl
    all_goals
      simp [bdsF, cntOk, countF_iff, hj]
      constructor <;> intro h <;> and_intros <;> first | omega | simp_all
  · rcases hk with rfl | rfl | rfl | rfl | rfl | rfl | rfl | rfl | rfl | rfl
    all_goals
      simp [hj] at hn'
      simp [bdsF, cntOk, countF_iff, hj]
      first
      | (constructor <;> intro h <;> and_intros <;> first | omega | (simp_all; done))
      | (constructor <;> intro h <;> exact absurd (hn' (by simp_all)) (by omega))
      | (constructor <;> intro h <;> simp_all)
theorem smBrw (σ : Hp) (d : Nat) (x : Sm) : brwL σ d (encSm x) = some (encSm x, []) := by
  simp only [encSm, brwL_cons, brwL_nil, brw_ag, brw_sc, brw_tr, brw_s, List.append_nil, Option.map_some, List.nil_append]
theorem firstBad_flat (x : Sm) : firstBad (listsF x).flatten = (if firstBad x.rows.flatten ≠ 0 then firstBad x.rows.flatten else if firstBad (x.sets.map (·.ex)) ≠ 0 then firstBad (x.sets.map (·.ex)) else firstBad ([x.items, x.on, x.where_, x.group].flatten)) := by
  have h1 : (x.sets.map (fun s => [s.ex])).flatten = x.sets.map (·.ex) := by
    induction x.sets with
    | nil => rfl
    | cons s l ih => simp only [List.map_cons, List.flatten_cons, ih]; rfl
  rw [listsF, List.flatten_append, List.flatten_append, h1, firstBad_append, firstBad_append]
  by_cases h2 : firstBad x.rows.flatten = 0
  · by_cases h3 : firstBad (x.sets.map (·.ex)) = 0 <;> simp [h2, h3]
  · simp [h2]
theorem flat_next {L : List (List Ep)} {i : Nat} {l : List Ep} (hx : L[i]? = some l) (h : firstBad (L.take i).flatten = 0) : firstBad (L.take (i + 1)).flatten = firstBad l := by
  rw [flat_take hx, firstBad_append, if_pos h]
theorem flat_stop {L : List (List Ep)} {i : Nat} {l : List Ep} (hx : L[i]? = some l) (h : firstBad (L.take i).flatten = 0) (h2 : firstBad l ≠ 0) : firstBad L.flatten = firstBad l := by
  rw [flat_split hx, firstBad_append, if_pos h, firstBad_append, if_neg h2]
theorem sets_next {L : List Se} {i : Nat} {s : Se} (hx : L[i]? = some s) (h : firstBad ((L.take i).map (·.ex)) = 0) : firstBad ((L.take (i + 1)).map (·.ex)) = exErr s.ex := by
  rw [List.take_add_one, hx, List.map_append, firstBad_append, if_pos h]
  simp only [Option.toList, List.map_cons, List.map_nil, firstBad]
  split <;> simp_all
theorem sets_stop {L : List Se} {i : Nat} {s : Se} (hx : L[i]? = some s) (h : firstBad ((L.take i).map (·.ex)) = 0) (h2 : exErr s.ex ≠ 0) : firstBad (L.map (·.ex)) = exErr s.ex := by
  have h3 := sets_next hx h
  have : L.map (·.ex) = (L.take (i + 1)).map (·.ex) ++ (L.drop (i + 1)).map (·.ex) := by rw [← List.map_append, List.take_append_drop]
  rw [this, firstBad_append, h3, if_neg h2]
set_option maxHeartbeats 8000000 in
theorem rfSCheck_con (x : Sm) (hb : SBd x) (hg : SRg x) : Con Tryz.prog 9 [.ag (encSm x)] (.ret (.sc (.int .i64 (checkF x)))) := by
  refine con_of (by_ref04_Check ?_)
  generalize hR : RC _ = R
  have HR := Lib.hid hR; clear hR
  have HCo := Lib.hid (rfCounts_con x hb)
  have HNa := Lib.hid (rfNames_con x hb)
  have HLi := Lib.hid (rfLists_con x hb)
  have HRow := Lib.hid (fun l hl => rfExprs_con l (hb.row l hl) (hg.row l hl))
  have HSet := Lib.hid (fun s hs => rfCheckExpr_con (Se.ex s) (hb.set s hs).2 (hg.set s hs))
  have HIt := Lib.hid (rfExprs_con x.items hb.items hg.items)
  have HOn := Lib.hid (rfExprs_con x.on hb.on hg.on)
  have HWh := Lib.hid (rfExprs_con x.where_ hb.where_ hg.where_)
  have HGr := Lib.hid (rfExprs_con x.group hb.group hg.group)
  have e5 := hb.rows; have e6 := hb.sets; have e9 := hb.on.len; have e11 := hb.group.len
  clear hb hg
  have hF : checkF x = if x.kind < 1 ∨ 10 < x.kind then 22 else if shapeF x = false then 9
    else if firstBad (listsF x).flatten ≠ 0 then firstBad (listsF x).flatten
    else match x.group with
      | [] => 0
      | e :: _ => if e.op ≠ 1 then 9 else 0 := rfl
  have HF := Lib.hid hF; clear hF
  have HSh := Lib.hid (shape_ref x)
  have h0e : (encSm x)[0]? = some (.sc (.int .i64 x.kind)) := rfl
  have h13e : (encSm x)[13]? = some (.sc (.int .i64 x.limit)) := rfl
  by_cases h1 : x.kind < 1
  · simp (maxSteps:=1000000) (disch:=omega) only [sh_ref04_Check,encSm,decide_true,decide_false,go_sem, *]
    rw [← HR.out]; exact RC_ret rfl (by rw [HF.out, if_pos (.inl h1)])
  · by_cases h2 : 10 < x.kind
    · simp (maxSteps:=1000000) (disch:=omega) only [sh_ref04_Check,encSm,decide_true,decide_false,go_sem, *]
      rw [← HR.out]; exact RC_ret rfl (by rw [HF.out, if_pos (.inr h2)])
    · have hF2 := HF.out
      rw [if_neg (by omega), HSh.out (by omega) (by omega)] at hF2
      have HF2 := Lib.hid hF2; clear hF2 HF HSh
      have hlm : limF x = if x.kind = 7 then decide (-1 ≤ x.limit) && decide (x.limit ≤ 2147483648) else decide (x.limit = 0) := rfl
      have HLM := Lib.hid hlm; clear hlm
      have HJ : joinF x = (decide (x.join ≠ []) == decide (0 < (x.on.length : Int))) := rfl
      have HJ' := Lib.hid HJ; clear HJ
      have rest : ∀ s12 v σ n, s12 = [v, .sc (.bool (limF x))] → σ 0 = some (.c ⟨14, [encSm x], true, false⟩) → 16 ≤ n → jk_ref04_Check10 (.rf 0 14 0 0) R s12 σ n := by
        intro s12 v σ n hs h0 hn
        subst hs
        clear h1 h2 h0e h13e
        rw [jk_ref04_Check10, show aLd σ (some 14) (.rf 0 14 0 0) = some (.ag (encSm x)) from by simp [aLd, h0, Am.part, encSm], bindP_some]
        refine CALL_con0 HCo.out (by simp only [List.append_nil, brwL_cons, brwL_nil, brw_ag, smBrw, Option.map_some]) ?_
        rw [kc_ref04_Check9, onEnd_ret]
        have hld14 : aLd σ (some 14) (.rf 0 14 0 0) = some (.ag (encSm x)) := by simp [aLd, h0, Am.part, encSm]
        have l8 : aLd σ none (.rf 0 14 0 8) = some (.s x.join) := ld_box h0 rfl
        have l9 : aLd σ none (.rf 0 14 0 9) = some (.tr (x.on.map encE)) := ld_box h0 rfl
        have n9 := len_tr x.on encE
        cases hc1 : countsF x
        · simp (maxSteps:=1000000) (disch:=omega) only [decide_true,decide_false,go_sem, *]
          rw [← HR.out]; exact RC_ret rfl (by rw [HF2.out, hc1]; rfl)
        · rw [aUn_not, bindP_some]
          simp only [Bool.not_true, guardP_on, guardK_on]
          rw [hld14, bindP_some]
          refine CALL_con0 HNa.out (by simp only [List.append_nil, brwL_cons, brwL_nil, brw_ag, smBrw, Option.map_some]) ?_
          rw [kc_ref04_Check1, onEnd_ret]
          cases hc2 : namesF x
          · simp (maxSteps:=1000000) (disch:=omega) only [decide_true,decide_false,go_sem, *]
            rw [← HR.out]; exact RC_ret rfl (by rw [HF2.out, hc1, hc2]; rfl)
          · simp only [aUn_not, aPick_b, bindP_some, Bool.not_true, cond_false, guardP_on, guardK_on]
            rw [hld14, bindP_some]
            refine CALL_con0 HLi.out (by simp only [List.append_nil, brwL_cons, brwL_nil, brw_ag, smBrw, Option.map_some]) ?_
            rw [kc_ref04_Check2, onEnd_ret]
            cases hc3 : lstF x
            · simp (maxSteps:=1000000) (disch:=omega) only [decide_true,decide_false,go_sem, *]
              rw [← HR.out]; exact RC_ret rfl (by rw [HF2.out, hc1, hc2, hc3]; rfl)
            · cases hc4 : limF x
              · simp (maxSteps:=1000000) (disch:=omega) only [decide_true,decide_false,List.getD_cons_succ,List.getD_cons_zero,go_sem, *]
                rw [← HR.out]; exact RC_ret rfl (by rw [HF2.out, hc1, hc2, hc3, hc4]; rfl)
              · simp only [aUn_not, aPick_b, bindP_some, Bool.not_true, cond_false, guardP_on, List.getD_cons_succ, List.getD_cons_zero, aFad_rf, Nat.zero_add, l8, l9, n9, binS_neq, bin_gtr, aEqb_b, bb, if_true]
                have hj : joinF x = ((!decide (x.join = [])) == decide (0 < (x.on.length : Int))) := by rw [HJ'.out, decide_not]
                cases hc5 : joinF x
                · rw [hc5] at hj
                  rw [← hj, Bool.not_false, COND_true]
                  rw [← HR.out]; exact RC_ret rfl (by rw [HF2.out, hc1, hc2, hc3, hc4, hc5]; rfl)
                · rw [hc5] at hj
                  rw [← hj, Bool.not_true, COND_false]
                  have hF3 := HF2.out
                  rw [hc1, hc2, hc3, hc4, hc5] at hF3
                  simp only [Bool.and_self, Bool.true_eq_false, if_false] at hF3
                  rw [firstBad_flat] at hF3
                  have HF3 := Lib.hid hF3
                  clear hF3 HF2 HJ' HLM hj hc1 hc2 hc3 hc4 hc5 HCo HNa HLi l8 l9 n9 hld14
                  refine LOOP_list x.rows (fun i st => ∃ a b c d, st = [a, b, c, d, .sc (.int .i64 i)] ∧ firstBad (x.rows.take i).flatten = 0) ⟨_, _, _, _, rfl, rfl⟩ ?_ ?_
                  · rintro i l K st n' hx hi hi' hn' ⟨a, b, c, d, rfl, hz⟩ hK
                    have HK := Lib.hid hK; clear hK
                    have HX := Lib.hid (HRow.out l (List.mem_of_getElem? hx))
                    have HN := Lib.hid (flat_next hx hz)
                    have HS := Lib.hid (flat_stop hx hz); clear hz
                    have l5 : aLd σ none (.rf 0 14 0 5) = some (.tr (x.rows.map encRx)) := ld_box h0 rfl
                    have n5 := len_tr x.rows encRx
                    have i5 : aIad 1 (.tr (x.rows.map encRx)) (.sc (.int .i64 i)) = some (.fp [.tr (l.map encE)]) := by rw [aIad_tr, if_pos (by omega), Int.toNat_natCast, List.getElem?_map, hx]; rfl
                    rw [lb_ref04_Check8]
                    simp only [List.getD_cons_succ, List.getD_cons_zero, aFad_rf, Nat.zero_add, bindP_some, l5, n5]
                    intro _
                    rw [bindP_ltI, COND_yes hi', i5, bindP_some, show aLd σ none (.fp [.tr (l.map encE)]) = some (.tr (l.map encE)) from rfl, bindP_some]
                    refine CALL_con0 HX.out rfl ?_
                    clear l5 n5 i5
                    by_cases hz : firstBad l = 0
                    · rw [kc_ref04_Check3, onEnd_ret]
                      simp (maxSteps:=1000000) (disch:=omega) only [decide_true,decide_false,List.getD_cons_succ,List.getD_cons_zero,go_sem, *]
                      exact HK.out _ _ (Nat.le_refl _) ⟨_, _, _, _, rfl, by rw [HN.out]; exact hz⟩
                    · rw [kc_ref04_Check3, onEnd_ret]
                      simp (maxSteps:=1000000) (disch:=omega) only [decide_true,decide_false,List.getD_cons_succ,List.getD_cons_zero,go_sem, *]
                      rw [← HR.out]; exact RC_ret rfl (by rw [HF3.out, HS.out hz, if_pos hz, if_pos hz])
                  · rintro K st n' hn' ⟨a, b, c, d, rfl, hz⟩
                    rw [List.take_length] at hz
                    have hF3 := HF3.out
                    rw [hz] at hF3
                    have HF4 := Lib.hid hF3; clear hF3 HF3 hz
                    have l5 : aLd σ none (.rf 0 14 0 5) = some (.tr (x.rows.map encRx)) := ld_box h0 rfl
                    have n5 := len_tr x.rows encRx
                    rw [lb_ref04_Check8]
                    simp only [List.getD_cons_succ, List.getD_cons_zero, aFad_rf, Nat.zero_add, bindP_some, l5, n5]
                    intro _
                    rw [bindP_ltI, COND_no (Int.lt_irrefl _)]
                    clear l5 n5
                    refine LOOP_list x.sets (fun i st => ∃ a b c d, st = [a, b, c, d, .sc (.int .i64 i)] ∧ firstBad ((x.sets.take i).map (·.ex)) = 0) ⟨_, _, _, _, rfl, rfl⟩ ?_ ?_
                    · rintro i s K st n'' hx hi hi' hn'' ⟨a, b, c, d, rfl, hz⟩ hK
                      have HK := Lib.hid hK; clear hK
                      have HX := Lib.hid (HSet.out s (List.mem_of_getElem? hx))
                      have HN := Lib.hid (sets_next hx hz)
                      have HS := Lib.hid (sets_stop hx hz); clear hz
                      have l6 : aLd σ none (.rf 0 14 0 6) = some (.tr (x.sets.map encS)) := ld_box h0 rfl
                      have n6 := len_tr x.sets encS
                      have i6 : aIad 8 (.tr (x.sets.map encS)) (.sc (.int .i64 i)) = some (.fp (encS s)) := by rw [aIad_tr, if_pos (by omega), Int.toNat_natCast, List.getElem?_map, hx]; simp [encS_len]
                      rw [lb_ref04_Check7]
                      simp only [List.getD_cons_succ, List.getD_cons_zero, aFad_rf, Nat.zero_add, bindP_some, l6, n6]
                      intro _
                      rw [bindP_ltI, COND_yes hi', i6, bindP_some, show aFad 1 (.fp (encS s)) = some (.fp (encE s.ex)) from by simp [aFad, encS, encE_eq], bindP_some, show aLd σ (some 7) (.fp (encE s.ex)) = some (.ag (encE s.ex)) from by simp [aLd, Am.part, encE_eq], bindP_some]
                      refine CALL_con0 HX.out (by simp only [List.append_nil, brwL_cons, brwL_nil, brw_ag, encE_brw, Option.map_some]) ?_
                      clear l6 n6 i6
                      rw [kc_ref04_Check4, onEnd_ret]
                      change bindP (semBin .neq (.sc (.int .i64 (exErr s.ex))) _) _
                      by_cases hz : exErr s.ex = 0
                      · simp (maxSteps:=1000000) (disch:=omega) only [decide_true,decide_false,List.getD_cons_succ,List.getD_cons_zero,go_sem, *]
                        exact HK.out _ _ (Nat.le_refl _) ⟨_, _, _, _, rfl, by rw [HN.out]; exact hz⟩
                      · simp (maxSteps:=1000000) (disch:=omega) only [decide_true,decide_false,List.getD_cons_succ,List.getD_cons_zero,go_sem, *]
                        rw [← HR.out]; exact RC_ret rfl (by
                          have h := HF4.out
                          rw [HS.out hz] at h
                          simp [hz] at h
                          rw [h]; rfl)
                    · rintro K st n'' hn'' ⟨a, b, c, d, rfl, hz⟩
                      rw [List.take_length] at hz
                      have hF4 := HF4.out
                      rw [hz] at hF4
                      have HF5 := Lib.hid hF4; clear hF4 HF4 hz
                      have l6 : aLd σ none (.rf 0 14 0 6) = some (.tr (x.sets.map encS)) := ld_box h0 rfl
                      have n6 := len_tr x.sets encS
                      have l7 : aLd σ none (.rf 0 14 0 7) = some (.tr (x.items.map encE)) := ld_box h0 rfl
                      have l9 : aLd σ none (.rf 0 14 0 9) = some (.tr (x.on.map encE)) := ld_box h0 rfl
                      have l10 : aLd σ none (.rf 0 14 0 10) = some (.tr (x.where_.map encE)) := ld_box h0 rfl
                      have l11 : aLd σ none (.rf 0 14 0 11) = some (.tr (x.group.map encE)) := ld_box h0 rfl
                      rw [lb_ref04_Check7]
                      simp only [List.getD_cons_succ, List.getD_cons_zero, aFad_rf, Nat.zero_add, bindP_some, l6, n6]
                      intro _
                      rw [bindP_ltI, COND_no (Int.lt_irrefl _)]
                      simp only [bindP_some, l7, l9, l10, l11]
                      clear l6 n6 l7 l9 l10 l11
                      change bindS (some (.ow _ 1 0 4, [(_, some (Ob.c ⟨1, [x.items, x.on, x.where_, x.group].map encRx, true, true⟩))])) _ _ _
                      rw [bindS_some]
                      generalize hτ : applyW _ _ = τ
                      have h1 : τ n'' = some (.c ⟨1, [x.items, x.on, x.where_, x.group].map encRx, true, true⟩) := by rw [← hτ]; simp only [applyW_cons, applyW_nil]; exact upd_is rfl
                      have h0' : τ 0 = some (.c ⟨14, [encSm x], true, false⟩) := by rw [← hτ]; simp only [applyW_cons, applyW_nil]; rw [upd_not (by omega)]; exact h0
                      clear hτ h0
                      have HL4 := Lib.hid (show ∀ l ∈ [x.items, x.on, x.where_, x.group], Con Tryz.prog 30 [.tr (l.map encE)] (.ret (.sc (.int .i64 (firstBad l)))) from by
                        intro l hl
                        simp only [List.mem_cons, List.not_mem_nil, or_false] at hl
                        rcases hl with rfl | rfl | rfl | rfl
                        · exact HIt.out
                        · exact HOn.out
                        · exact HWh.out
                        · exact HGr.out)
                      refine LOOP_list [x.items, x.on, x.where_, x.group] (fun i st => ∃ a b c d, st = [a, b, c, d, .sc (.int .i64 i)] ∧ firstBad ([x.items, x.on, x.where_, x.group].take i).flatten = 0) ⟨_, _, _, _, rfl, rfl⟩ ?_ ?_
                      · rintro i l K st n' hx hi hi' hn' ⟨a, b, c, d, rfl, hz⟩ hK
                        have HK := Lib.hid hK; clear hK
                        have HX := Lib.hid (HL4.out l (List.mem_of_getElem? hx))
                        have HN := Lib.hid (flat_next hx hz)
                        have HS := Lib.hid (flat_stop hx hz); clear hz
                        have hi4 : i < 4 := hi
                        have i4 : aIad 1 (.ow n'' 1 0 4) (.sc (.int .i64 i)) = some (.rf n'' 1 i 0) := by rw [aIad_ow, if_pos ⟨rfl, by omega, by omega⟩]; simp
                        have l4 : aLd τ none (.rf n'' 1 i 0) = some (.tr (l.map encE)) := by
                          rw [aLd_rf, h1]
                          simp only [if_true, List.getElem?_map, hx, Option.map_some, part_none, encRx]
                          rfl
                        rw [lb_ref04_Check6]
                        simp only [List.getD_cons_succ, List.getD_cons_zero, aFad_rf, Nat.zero_add]
                        rw [bindP_ltI, COND_yes (by omega), i4, bindP_some, l4, bindP_some]
                        refine CALL_con0 HX.out rfl ?_
                        clear i4 l4 h1 hi hi' hx
                        by_cases hz : firstBad l = 0
                        · rw [kc_ref04_Check5, onEnd_ret]
                          simp (maxSteps:=1000000) (disch:=omega) only [decide_true,decide_false,List.getD_cons_succ,List.getD_cons_zero,go_sem, *]
                          exact HK.out _ _ (Nat.le_refl _) ⟨_, _, _, _, rfl, by rw [HN.out]; exact hz⟩
                        · rw [kc_ref04_Check5, onEnd_ret]
                          simp (maxSteps:=1000000) (disch:=omega) only [decide_true,decide_false,List.getD_cons_succ,List.getD_cons_zero,go_sem, *]
                          rw [← HR.out]; exact RC_ret rfl (by
                            have h := HF5.out
                            rw [HS.out hz] at h
                            simp [hz] at h
                            rw [h])
                      · rintro K st n' hn' ⟨a, b, c, d, rfl, hz⟩
                        have hz' : firstBad [x.items, x.on, x.where_, x.group].flatten = 0 := hz
                        have hF5 := HF5.out
                        rw [hz'] at hF5
                        simp only [ne_eq, not_true_eq_false, if_false] at hF5
                        have l11 : aLd τ none (.rf 0 14 0 11) = some (.tr (x.group.map encE)) := ld_box h0' rfl
                        have n11 := len_tr x.group encE
                        rw [lb_ref04_Check6]
                        simp only [List.getD_cons_succ, List.getD_cons_zero, aFad_rf, Nat.zero_add, List.length_cons, List.length_nil]
                        rw [bindP_ltI, COND_no (by omega)]
                        simp only [bindP_some, l11, n11]
                        intro _
                        cases hgr : x.group with
                        | nil =>
                          rw [hgr] at hF5
                          have HF6 := Lib.hid hF5; clear hF5 HF5 hz hz'
                          rw [bin_gtr, bindP_some, show decide ((0 : Int) < (([] : List Ep).length : Int)) = false from rfl]
                          simp only [guardP_f, aPick_b, cond_false, bindP_some, COND_false]
                          rw [← HR.out]; exact RC_ret rfl (by rw [HF6.out])
                        | cons e l =>
                          rw [hgr] at hF5
                          rw [hgr] at l11
                          have i7 : aIad 7 (.tr ((e :: l).map encE)) (.sc (.int .i64 0)) = some (.fp (encE e)) := by rw [aIad_tr, if_pos (by omega)]; simp [encE_len]
                          have a7 : aFad 0 (.fp (encE e)) = some (.fp (encE e)) := by simp [aFad, encE_len]
                          have b7 : aLd τ none (.fp (encE e)) = some (.sc (.int .i64 e.op)) := by simp [aLd, part_none, encE_eq]
                          rw [bin_gtr, bindP_some, decide_eq_true (by simp only [List.length_cons]; omega)]
                          simp only [guardP_on, bindP_some, l11, i7, a7, b7, bin_neq, aPick_b, cond_true]
                          change checkF x = if ¬ e.op = 1 then 9 else 0 at hF5
                          by_cases ho : e.op = 1
                          · rw [if_neg (by simp [ho])] at hF5
                            rw [show (!decide (e.op = 1)) = false by simp [ho], COND_false]
                            rw [← HR.out]; exact RC_ret rfl (by rw [hF5])
                          · rw [if_pos ho] at hF5
                            rw [show (!decide (e.op = 1)) = true by simp [ho], COND_true]
                            rw [← HR.out]; exact RC_ret rfl (by rw [hF5])
      have HRest := Lib.hid rest; clear rest
      rw [sh_ref04_Check]
      change bindS (some (.rf 0 14 0 0, [(0, some (Ob.c ⟨14, [encSm x], true, false⟩))])) _ _ _
      rw [bindS_some]
      generalize hτ : applyW _ _ = τ
      have h0 : τ 0 = some (.c ⟨14, [encSm x], true, false⟩) := by rw [← hτ]; simp only [applyW_cons, applyW_nil]; exact upd_is rfl
      clear hτ
      have l0 : aLd τ none (.rf 0 14 0 0) = some (.sc (.int .i64 x.kind)) := ld_box h0 h0e
      have l13 : aLd τ none (.rf 0 14 0 13) = some (.sc (.int .i64 x.limit)) := ld_box h0 h13e
      simp only [aFad_rf, Nat.zero_add, bindP_some, l0, l13]
      rw [bindP_ltI, decide_eq_false h1]
      simp only [guardP_on, bindP_some, l0, bin_gtr, aPick_b, cond_false]
      rw [decide_eq_false h2, COND_false, bindP_eqI, JOIN_eq, bindP_eqI]
      have hlm := HLM.out
      by_cases h7 : x.kind = 7
      · rw [COND_yes h7, bin_geq, bindP_some]
        rw [if_pos h7] at hlm
        by_cases hl : -1 ≤ x.limit
        · rw [decide_eq_true hl] at hlm ⊢
          simp only [guardP_on, bindP_some, l13, bin_leq, aPick_b, cond_true]
          refine HRest.out _ (.sc (.bool (decide (x.kind = 7)))) _ _ ?_ h0 (by omega)
          rw [hlm]; rfl
        · rw [decide_eq_false hl] at hlm ⊢
          simp only [guardP_f, bindP_some, aPick_b, cond_false]
          refine HRest.out _ (.sc (.bool (decide (x.kind = 7)))) _ _ ?_ h0 (by omega)
          rw [hlm]; rfl
      · rw [COND_no h7]
        rw [if_neg h7] at hlm
        refine HRest.out _ (.sc (.bool (decide (x.kind = 7)))) _ _ ?_ h0 (by omega)
        rw [hlm]
end Go.Proofs.YtodoejfkjimeaaaGreatDoor

set_option linter.unusedSimpArgs false
set_option linter.unusedVariables false
set_option maxRecDepth 100000
namespace Go.Proofs.YtodoejfkjimeaaaGreatDoor
open Go Go.RowKit Am
attribute [-go_sem] guardP_if guardK_if guardD_if COND_bool
attribute [local go_sem low] guardP_if guardK_if guardD_if COND_bool
theorem bindP_addT {a b : List UInt8} {f : AV → Prop} (h : a.length + b.length ≤ 9000000000000000000) : bindP (semBin .add (.s a) (.s b)) f = f (.s (a ++ b)) := bindP_add (by omega)
theorem joinT_head {h : Tx} {ps : List Tx} (hp : ps ≠ []) : joinT h ps = h ++ joinT [] ps := by
  cases ps with
  | nil => exact absurd rfl hp
  | cons p ps => simp [joinT]
theorem addI {i : Nat} {m : Nat} (h : (i : Int) < m) {σ : Hp} {rows : List (List AV)} (hb : bnd σ (.tr rows)) (hm : rows.length = m) : semBin .add (.sc (.int .i64 i)) (.sc (.int .i64 1)) = some (.sc (.int .i64 ((i + 1 : Nat) : Int))) := by
  have hb' : rows.length ≤ 4611686018427387904 := hb
  rw [bin_add, wrapI (by omega) (by omega)]; rfl
theorem aptn (r r' : List Nat) : Apt (names []) r (names []) r' := by simp [Apt, names]
set_option maxHeartbeats 2000000 in
theorem rfList_con (l : List Ep) (hb : LBd l) (hr : ∀ e ∈ l, Rg e) (hk : ∀ e ∈ l, OKk 12 e) (hl : l.length ≤ 16) : Con Tryz.prog 19 [.tr (l.map encE)] (.ret (.s (joinT [] (l.map printF)))) := by
  refine con_of (by_ref04_list ?_)
  generalize hR : RC _ = R
  have HR := Lib.hid hR; clear hR
  have hlen := exprs_len [] 16 hb hk hl
  simp only [List.length_nil] at hlen
  rw [sh_ref04_list]
  refine LOOP_list l (fun i st => ∃ p q, st = [p, q, .s (joinT [] ((l.take i).map printF)), .sc (.int .i64 i)]) ⟨_, _, rfl⟩ ?_ ?_
  · rintro i x K st n' hx hi hi' hn ⟨p, q, rfl⟩ hK
    have hm := List.mem_of_getElem? hx
    have ht := joinT_take printF [] hx
    have hle := joinT_le (l.map printF) [] i
    rw [← List.map_take] at hle
    have hpl := pf_len (hk x hm) (hb.bd x hm)
    have ia : aIad 7 (.tr (l.map encE)) (.sc (.int .i64 i)) = some (.fp (encE x)) := by rw [aIad_tr, if_pos (by omega), Int.toNat_natCast, List.getElem?_map, hx]; simp [encE_len]
    have hp := rfPrinted_con 12 x (by omega) (hk x hm) (hb.bd x hm) (hr x hm)
    rw [lb_ref04_list3, len_tr, bindP_some]
    intro hbn
    simp only [List.getD_cons_succ, List.getD_cons_zero]
    rw [bindP_ltI, COND_yes hi', JOIN_eq, bin_gtr, bindP_some]
    have go : ∀ (v : AV) (t : Tx), t = joinT [] ((l.take i).map printF) ++ (if i = 0 then [] else [44, 32]) → jk_ref04_list2 (.tr (l.map encE)) [p, q, .s (joinT [] ((l.take i).map printF)), .sc (.int .i64 i)] K (.sc (.bool (decide ((i : Int) < (l.length : Int))))) R [v, .s t] (fun _ => none) n' := by
      rintro v t rfl
      rw [jk_ref04_list2]
      simp only [List.getD_cons_succ, List.getD_cons_zero]
      rw [ia, bindP_some, show ∀ σ : Hp, aLd σ (some 7) (.fp (encE x)) = some (.ag (encE x)) from fun σ => by simp [aLd, Am.part, encE_eq], bindP_some]
      refine CALL_con0 hp (by simp only [brwL_cons, brwL_nil, brw_ag, encE_brw, List.append_nil, Option.map_some]) ?_
      rw [kc_ref04_list1, onEnd_ret]
      simp only [List.getD_cons_succ, List.getD_cons_zero]
      rw [bindP_addT (by split <;> simp only [List.length_append, List.length_cons, List.length_nil] <;> omega), addI hi' hbn (List.length_map _), bindP_some]
      rw [List.append_assoc, ← ht]
      exact hK _ _ (Nat.le_refl _) ⟨_, _, rfl⟩
    by_cases h0 : i = 0
    · subst h0
      rw [COND_no (by simp)]
      exact go _ _ (by simp)
    · rw [COND_yes (by omega), bindP_addT (by simp only [List.length_cons, List.length_nil]; omega)]
      exact go _ _ (by rw [if_neg h0])
  · rintro K st n' hn ⟨p, q, rfl⟩
    rw [lb_ref04_list3, len_tr, bindP_some]
    intro hbn
    simp only [List.getD_cons_succ, List.getD_cons_zero]
    rw [bindP_ltI, COND_no (Int.lt_irrefl _), List.take_length, ← HR.out]
    exact RC_ret rfl rfl
theorem rfWith_con (W : Tx) (l : List Ep) (hb : LBd l) (hr : ∀ e ∈ l, Rg e) (hk : ∀ e ∈ l, OKk 12 e) (hl : l.length ≤ 1) (hW : W.length ≤ 100) : Con Tryz.prog 21 [.s W, .tr (l.map encE)] (.ret (.s (joinT ([32] ++ W ++ [32]) (l.map printF)))) := by
  refine con_of (by_ref04_with ?_)
  generalize hR : RC _ = R
  have HR := Lib.hid hR; clear hR
  rw [sh_ref04_with, len_tr, bindP_some]
  intro _
  rw [bindP_eqI]
  cases l with
  | nil =>
    rw [COND_yes (by simp), ← HR.out]; exact RC_ret rfl rfl
  | cons e l =>
    obtain rfl : l = [] := by
      cases l with
      | nil => rfl
      | cons a l => simp at hl
    have hp := rfPrinted_con 12 e (by omega) (hk e List.mem_cons_self) (hb.bd e List.mem_cons_self) (hr e List.mem_cons_self)
    have hpl := pf_len (hk e List.mem_cons_self) (hb.bd e List.mem_cons_self)
    rw [COND_no (by simp), bindP_addT (by simp only [List.length_cons, List.length_nil]; omega), bindP_addT (by simp only [List.length_append, List.length_cons, List.length_nil]; omega),
      show aIad 7 (.tr ([e].map encE)) (.sc (.int .i64 0)) = some (.fp (encE e)) from by rw [aIad_tr, if_pos (by omega)]; simp [encE_len], bindP_some, show ∀ σ : Hp, aLd σ (some 7) (.fp (encE e)) = some (.ag (encE e)) from fun σ => by simp [aLd, Am.part, encE_eq], bindP_some]
    refine CALL_con0 hp (by simp only [brwL_cons, brwL_nil, brw_ag, encE_brw, List.append_nil, Option.map_some]) ?_
    rw [kc_ref04_with1, onEnd_ret, bindP_addT (by simp only [List.length_append, List.length_cons, List.length_nil]; omega), ← HR.out]
    exact RC_ret rfl (by simp [joinT])
def colsT (cs : List Cl) : Tx := (cs.map fun c => colT c ++ [44, 32]).flatten
theorem colsT_take {cs : List Cl} {i : Nat} {c : Cl} (h : cs[i]? = some c) : colsT (cs.take (i + 1)) = colsT (cs.take i) ++ (colT c ++ [44, 32]) := by
  unfold colsT; rw [List.take_add_one, h, List.map_append, List.flatten_append]; simp
theorem colsT_is : ∀ (cs : List Cl) (h : Tx), (cs = [] → h = [44, 32]) → joinT h (cs.map colT) ++ [44, 32] = h ++ colsT cs
  | [], h, e => by rw [e rfl]; rfl
  | c :: cs, h, _ => by
    have ih := colsT_is cs [44, 32] (fun _ => rfl)
    simp only [List.map_cons, joinT, colsT, List.flatten_cons, List.append_assoc] at ih ⊢
    rw [ih]
theorem colsT_len : ∀ (cs : List Cl) (i : Nat), (∀ c ∈ cs, c.name.length ≤ 1048576) → cs.length ≤ 8 → (colsT (cs.take i)).length ≤ 9000000 := by
  intro cs i h hl
  have key : ∀ ds : List Cl, (∀ c ∈ ds, c.name.length ≤ 1048576) → (colsT ds).length ≤ ds.length * 1048600 := by
    intro ds
    induction ds with
    | nil => intro _; simp [colsT]
    | cons c ds ih =>
      intro hd
      have h1 := hd c List.mem_cons_self
      have h2 := ih (fun z hz => hd z (List.mem_cons_of_mem _ hz))
      have h3 : ∀ m : Nat, (([[32, 73, 78, 84], [32, 66, 79, 79, 76], [32, 84, 69, 88, 84]] : List Tx).getD m []).length ≤ 5 := fun m => by
        match m with
        | 0 => decide
        | 1 => decide
        | 2 => decide
        | m + 3 => simp
      have h4 := h3 (c.kind - 1).toNat
      have h5 : (colT c).length ≤ 1048590 := by
        unfold colT
        split <;> simp only [List.length_append, List.length_cons, List.length_nil] <;> omega
      unfold colsT at h2 ⊢
      simp only [List.map_cons, List.flatten_cons, List.length_append, List.length_cons, List.length_nil] at h2 ⊢
      rw [Nat.add_mul]
      omega
  have := key (cs.take i) (fun c hc => h c (List.mem_of_mem_take hc))
  have h5 : (cs.take i).length ≤ 8 := by rw [List.length_take]; omega
  have h6 : (cs.take i).length * 1048600 ≤ 8 * 1048600 := Nat.mul_le_mul_right _ h5
  omega
end Go.Proofs.YtodoejfkjimeaaaGreatDoor

set_option linter.unusedSimpArgs false
set_option linter.unusedVariables false
set_option maxRecDepth 100000
namespace Go.Proofs.YtodoejfkjimeaaaGreatDoor
open Go Go.RowKit Am
attribute [-go_sem] guardP_if guardK_if guardD_if COND_bool
attribute [local go_sem low] guardP_if guardK_if guardD_if COND_bool
theorem st_all {σ : Hp} {i k : Nat} {row row' : List AV} (h : σ i = some (.c ⟨k, [row], true, false⟩)) (h1 : row.length = k) (h2 : row'.length = k) (h3 : row'.all leafok = true) : hSt σ k (.rf i k 0 0) (.ag row') = some (.tp [], [(i, some (.c ⟨k, [row'], true, false⟩))]) := by
  have hc : (AV.ag row').cells = some row' := rfl
  have hs : splice row 0 row' = row' := by simp [splice, h1, h2]
  rw [hSt_rf, h]
  simp only [hc, List.getElem?_cons_zero, and_self, if_true]
  rw [if_pos ⟨h2, by omega, h3⟩, hs]
  rfl
set_option maxHeartbeats 4000000 in
theorem rfColumns_con (x : Sm) (hb : SBd x) (hk : SOk x) : Con Tryz.prog 18 [.ag (encSm x)] (.ret (.s (colsT x.columns))) := by
  refine con_of (by_ref04_columns ?_)
  generalize hR : RC _ = R
  have HR := Lib.hid hR; clear hR
  have hlen := fun i => colsT_len x.columns i hb.col hk.cols
  rw [sh_ref04_columns]
  change bindS (some (.rf 0 14 0 0, [(0, some (.c ⟨14, [encSm x], true, false⟩))])) _ _ _
  rw [bindS_some]
  simp only [applyW_cons, applyW_nil]
  refine LOOP_listM x.columns (fun i st σ n => (∃ p q r, st = [p, q, r, .s (colsT (x.columns.take i)), .sc (.int .i64 i)]) ∧ σ 0 = some (.c ⟨14, [encSm x], true, false⟩)) (.refl ⟨⟨_, _, _, rfl⟩, upd_is rfl⟩) ?_ ?_
  · rintro i c K st σ n hx hi hi' hn ⟨⟨p, q, r, rfl⟩, h0⟩ hK
    have hm := List.mem_of_getElem? hx
    have ht := colsT_take hx
    have hl := hlen i
    have hl2 := hlen (i + 1)
    have hcn := hb.col c hm
    have hck := hk.col c hm
    have l2 : aLd σ none (.rf 0 14 0 2) = some (.tr (x.columns.map encC)) := ld_box h0 rfl
    have ia : aIad 3 (.tr (x.columns.map encC)) (.sc (.int .i64 i)) = some (.fp (encC c)) := by rw [aIad_tr, if_pos (by omega), Int.toNat_natCast, List.getElem?_map, hx]; rfl
    rw [lb_ref04_columns2]
    simp only [List.getD_cons_succ, List.getD_cons_zero, aFad_rf, Nat.zero_add, bindP_some, l2, len_tr]
    intro hbn
    rw [bindP_ltI, COND_yes hi', ia, bindP_some, show aLd σ (some 3) (.fp (encC c)) = some (.ag (encC c)) from rfl, bindP_some]
    change bindS (some (.rf n 3 0 0, [(n, some (.c ⟨3, [[.s [], .sc (.int .i64 0), .sc (.bool false)]], true, false⟩))])) _ _ _
    rw [bindS_some]
    simp only [applyW_cons, applyW_nil]
    rw [st_all (k := 3) (row := [.s [], .sc (.int .i64 0), .sc (.bool false)]) (row' := encC c) (upd_is rfl) rfl rfl rfl, bindS_some]
    simp only [applyW_cons, applyW_nil]
    generalize hρ : upd _ n _ = ρ
    have r0 : ρ 0 = some (.c ⟨14, [encSm x], true, false⟩) := by rw [← hρ, upd_not (by omega), upd_not (by omega)]; exact h0
    have rn : ρ n = some (.c ⟨3, [encC c], true, false⟩) := by rw [← hρ]; exact upd_is rfl
    clear hρ
    simp only [aFad_rf, Nat.zero_add, bindP_some]
    rw [show aLd ρ none (.rf n 3 0 0) = some (.s c.name) from ld_box rn rfl, bindP_some, bindP_addT (by omega), bindP_addT (by simp only [List.length_append, List.length_cons, List.length_nil]; omega)]
    change bindH (some (.ow _ 1 0 3, [(_, some (Ob.c ⟨1, txRows [[73, 78, 84], [66, 79, 79, 76], [84, 69, 88, 84]], true, true⟩))])) _
    rw [bindH_some, show aLd ρ none (.rf n 3 0 1) = some (.sc (.int .i64 c.kind)) from ld_box rn rfl, bindP_some]
    simp only [applyW_cons, applyW_nil]
    have last : ∀ (ty : Tx), ty.length ≤ 4 → colT c = c.name ++ ([32] ++ ty) ++ (if c.notNull = true then [32, 78, 79, 84, 32, 78, 85, 76, 76] else []) → ∀ (n2 : Nat), n ≤ n2 → (fun σ_1 n_1 => JOIN (jk_ref04_columns1 [p, q, r, .s (colsT (x.columns.take i)), .sc (.int .i64 i)] K (.sc (.bool (decide ((i : Int) < (x.columns.length : Int))))) (.rf n 3 0 0)) fun K26 =>
        bindP (aFad 2 (.rf n 3 0 0)) fun v29 => bindP (aLd σ_1 none v29) fun v30 => COND v30 (bindP (semBin .add (.s (colsT (x.columns.take i) ++ c.name ++ [32] ++ ty)) (.s [32, 78, 79, 84, 32, 78, 85, 76, 76])) fun v31 => K26 [v30, v31] σ_1 n_1) (K26 [v30, .s (colsT (x.columns.take i) ++ c.name ++ [32] ++ ty)] σ_1 n_1)) (upd ρ (n + 16 + 16 + 16 * 5) (some (.c ⟨1, txRows [[73, 78, 84], [66, 79, 79, 76], [84, 69, 88, 84]], true, true⟩))) n2 := by
      intro ty h1 h2 n2 hn2
      show JOIN _ _
      generalize hμ : upd ρ (n + 16 + 16 + 16 * 5) _ = μ
      have m0 : μ 0 = some (.c ⟨14, [encSm x], true, false⟩) := by rw [← hμ, upd_not (by omega)]; exact r0
      have mn : μ n = some (.c ⟨3, [encC c], true, false⟩) := by rw [← hμ, upd_not (by omega)]; exact rn
      have fin : ∀ (u : Tx) (v : AV), u = colsT (x.columns.take i) ++ colT c → jk_ref04_columns1 [p, q, r, .s (colsT (x.columns.take i)), .sc (.int .i64 i)] K (.sc (.bool (decide ((i : Int) < (x.columns.length : Int))))) (.rf n 3 0 0) [v, .s u] μ n2 := by
        intro u v hu
        have hul : u.length ≤ 9000000 := by
          have := hl2
          rw [ht] at this
          rw [hu]
          simp only [List.length_append, List.length_cons, List.length_nil] at this ⊢
          omega
        rw [jk_ref04_columns1]
        simp only [List.getD_cons_succ, List.getD_cons_zero]
        rw [bindP_addT (by simp only [List.length_cons, List.length_nil]; omega), addI hi' hbn (List.length_map _), bindP_some]
        have e : u ++ [44, 32] = colsT (x.columns.take (i + 1)) := by rw [ht, hu, List.append_assoc]
        rw [e]
        exact hK _ _ _ (.refl ⟨⟨_, _, _, rfl⟩, m0⟩)
      rw [JOIN_eq, aFad_rf, bindP_some, show aLd μ none (.rf n 3 0 (0 + 2)) = some (.sc (.bool c.notNull)) from ld_box mn rfl, bindP_some]
      cases hnn : c.notNull with
      | true =>
        rw [COND_true, bindP_addT (by simp only [List.length_append, List.length_cons, List.length_nil]; omega)]
        exact fin _ _ (by rw [h2, hnn]; simp)
      | false =>
        rw [COND_false]
        exact fin _ _ (by rw [h2, hnn]; simp)
    have kk : c.kind = 1 ∨ c.kind = 2 ∨ c.kind = 3 := by omega
    obtain ⟨ty, j, h1, h2, h3, h4, h5⟩ : ∃ (ty : Tx) (j : Nat), ty.length ≤ 4 ∧ semBin .sub (.sc (.int .i64 c.kind)) (.sc (.int .i64 1)) = some (.sc (.int .i64 (j : Int))) ∧ j < 3 ∧ (txRows [[73, 78, 84], [66, 79, 79, 76], [84, 69, 88, 84]])[j]? = some [.s ty] ∧ colT c = c.name ++ ([32] ++ ty) ++ (if c.notNull = true then [32, 78, 79, 84, 32, 78, 85, 76, 76] else []) := by
      rcases kk with kk | kk | kk
      · exact ⟨[73, 78, 84], 0, by decide, by rw [kk, bin_sub, wrapI (by omega) (by omega)]; rfl, by omega, rfl, by rw [colT, kk]; rfl⟩
      · exact ⟨[66, 79, 79, 76], 1, by decide, by rw [kk, bin_sub, wrapI (by omega) (by omega)]; rfl, by omega, rfl, by rw [colT, kk]; rfl⟩
      · exact ⟨[84, 69, 88, 84], 2, by decide, by rw [kk, bin_sub, wrapI (by omega) (by omega)]; rfl, by omega, rfl, by rw [colT, kk]; rfl⟩
    rw [h2, bindP_some, aIad_ow, if_pos ⟨rfl, by omega, by omega⟩, bindP_some, aLd_rf, upd_is rfl]
    simp only [if_true, Nat.zero_add, Int.toNat_natCast, h4, part_none, List.getElem?_cons_zero, bindP_some]
    rw [bindP_addT (by simp only [List.length_append, List.length_cons, List.length_nil]; omega)]
    exact ⟨by simp [Apt, names, rdA] <;> omega, by simp [Apt, names, rdA] <;> omega, by simp [Apt, names, rdA] <;> omega, by simp [Apt, names, rdA] <;> omega, fun n2 hn2 => last ty h1 h5 n2 (by omega)⟩
  · rintro K st σ n hn ⟨⟨p, q, r, rfl⟩, h0⟩
    have l2 : aLd σ none (.rf 0 14 0 2) = some (.tr (x.columns.map encC)) := ld_box h0 rfl
    rw [lb_ref04_columns2]
    simp only [List.getD_cons_succ, List.getD_cons_zero, aFad_rf, Nat.zero_add, bindP_some, l2, len_tr]
    intro hbn
    rw [bindP_ltI, COND_no (Int.lt_irrefl _), List.take_length, ← HR.out]
    exact RC_ret rfl rfl
end Go.Proofs.YtodoejfkjimeaaaGreatDoor

set_option linter.unusedSimpArgs false
set_option linter.unusedVariables false
set_option maxRecDepth 100000
namespace Go.Proofs.YtodoejfkjimeaaaGreatDoor
open Go Go.RowKit Am
attribute [-go_sem] guardP_if guardK_if guardD_if COND_bool
attribute [local go_sem low] guardP_if guardK_if guardD_if COND_bool
set_option maxHeartbeats 8000000 in
theorem rfSelected_con (x : Sm) (hb : SBd x) (hg : SRg x) (hk : SOk x) (hs : SSh x) (h7 : x.kind = 7) : Con Tryz.prog 22 [.ag (encSm x)] (.ret (.s (queryT x))) := by
  refine con_of (by_ref04_selected ?_)
  generalize hR : RC _ = R
  have HR := Lib.hid hR; clear hR
  have l1 := exprs_len [] 16 hb.items (hk.ok _ (in_items x)) hk.items
  have l2 := exprs_len [32, 79, 78, 32] 1 hb.on (hk.ok _ (in_on x)) hk.on
  have l3 := exprs_len [32, 87, 72, 69, 82, 69, 32] 1 hb.where_ (hk.ok _ (in_where x)) hk.where_
  have l4 := exprs_len [32, 71, 82, 79, 85, 80, 32, 66, 89, 32] 1 hb.group (hk.ok _ (in_group x)) hk.group
  have l5 := joinT_le2 ordT x.order [32, 79, 82, 68, 69, 82, 32, 66, 89, 32] 50 8 (fun o ho => by
    have := decF_len 40 o.n
    unfold ordT
    split <;> simp only [List.length_append, List.length_cons, List.length_nil] <;> omega) hk.order
  have l6 := decF_len 40 x.limit
  have e1 := hb.table; have e3 := hb.join
  simp only [List.length_cons, List.length_nil] at l1 l2 l3 l4 l5
  rw [sh_ref04_selected]
  change bindS (some (.rf 0 14 0 0, [(0, some (.c ⟨14, [encSm x], true, false⟩))])) _ _ _
  rw [bindS_some]
  simp only [applyW_cons, applyW_nil]
  generalize hτ : upd _ 0 _ = τ
  have hA : τ 0 = some (.c ⟨14, [encSm x], true, false⟩) := by rw [← hτ]; exact upd_is rfl
  clear hτ
  rw [aFad_rf, bindP_some, ld_box hA rfl, bindP_some]
  refine callD_con0 (rfList_con x.items hb.items hg.items (hk.ok _ (in_items x)) hk.items) rfl ?_
  rw [kd_ref04_selected11, onEnd_ret, bindP_addT (by simp only [List.length_cons, List.length_nil]; omega), bindP_addT (by simp only [List.length_append, List.length_cons, List.length_nil]; omega), aFad_rf, bindP_some, ld_box hA rfl, bindP_some, bindP_addT (by simp only [List.length_append, List.length_cons, List.length_nil]; omega)]
  refine ⟨aptn _ _, aptn _ _, fun n_ hn_ => ?_⟩
  have eI : [83, 69, 76, 69, 67, 84, 32] ++ joinT [] (x.items.map printF) ++ [32, 70, 82, 79, 77, 32] ++ x.table = joinT [83, 69, 76, 69, 67, 84, 32] (x.items.map printF) ++ ([32, 70, 82, 79, 77, 32] ++ x.table) := by
    rw [joinT_head (h := [83, 69, 76, 69, 67, 84, 32]) (by simpa using hs.items.1 h7)]
    simp only [List.append_assoc]
  have lI : (joinT [83, 69, 76, 69, 67, 84, 32] (x.items.map printF) ++ ([32, 70, 82, 79, 77, 32] ++ x.table)).length ≤ 300000000000 := by
    rw [← eI]; simp only [List.length_append, List.length_cons, List.length_nil]; omega
  simp only [applyW_nil]
  rw [eI]
  generalize hT1 : joinT [83, 69, 76, 69, 67, 84, 32] (x.items.map printF) ++ ([32, 70, 82, 79, 77, 32] ++ x.table) = T1 at *
  rw [JOIN_eq]
  have rest : ∀ (v : AV) (n2 : Nat), jk_ref04_selected10 (.rf 0 14 0 0) R [v, .s (T1 ++ (if x.join = [] then [] else [32, 74, 79, 73, 78, 32] ++ x.join) ++ joinT [32, 79, 78, 32] (x.on.map printF))] τ n2 := by
    intro v n2
    have lj : (if x.join = [] then [] else [32, 74, 79, 73, 78, 32] ++ x.join).length ≤ x.join.length + 6 := by split <;> simp
    have lT2 : (T1 ++ (if x.join = [] then [] else [32, 74, 79, 73, 78, 32] ++ x.join) ++ joinT [32, 79, 78, 32] (x.on.map printF)).length ≤ 400000000000 := by
      simp only [List.length_append]; omega
    have eq : queryT x = T1 ++ (if x.join = [] then [] else [32, 74, 79, 73, 78, 32] ++ x.join) ++ joinT [32, 79, 78, 32] (x.on.map printF) ++ joinT [32, 87, 72, 69, 82, 69, 32] (x.where_.map printF) ++ joinT [32, 71, 82, 79, 85, 80, 32, 66, 89, 32] (x.group.map printF) ++ joinT [32, 79, 82, 68, 69, 82, 32, 66, 89, 32] (x.order.map ordT) ++ (if 0 ≤ x.limit then [32, 76, 73, 77, 73, 84, 32] ++ decF 40 x.limit else []) := by
      rw [queryT, ← hT1, whereT]
    rw [eq] at HR
    generalize T1 ++ (if x.join = [] then [] else [32, 74, 79, 73, 78, 32] ++ x.join) ++ joinT [32, 79, 78, 32] (x.on.map printF) = T2 at *
    rw [jk_ref04_selected10, aFad_rf, bindP_some, ld_box hA rfl, bindP_some]
    refine callD_con0 (rfWith_con [87, 72, 69, 82, 69] x.where_ hb.where_ hg.where_ (hk.ok _ (in_where x)) hk.where_ (by decide)) rfl ?_
    rw [show ([32] ++ [87, 72, 69, 82, 69] ++ [32] : Tx) = [32, 87, 72, 69, 82, 69, 32] from rfl, kd_ref04_selected8, onEnd_ret]
    simp only [List.getD_cons_succ, List.getD_cons_zero]
    rw [bindP_addT (by omega), aFad_rf, bindP_some, ld_box hA rfl, bindP_some, applyW_nil]
    refine callD_con0 (rfWith_con [71, 82, 79, 85, 80, 32, 66, 89] x.group hb.group hg.group (hk.ok _ (in_group x)) hk.group (by decide)) rfl ?_
    rw [show ([32] ++ [71, 82, 79, 85, 80, 32, 66, 89] ++ [32] : Tx) = [32, 71, 82, 79, 85, 80, 32, 66, 89, 32] from rfl, kd_ref04_selected7, onEnd_ret, bindP_addT (by simp only [List.length_append]; omega)]
    refine ⟨aptn _ _, aptn _ _, fun n3 hn3 => ?_⟩
    simp only [applyW_nil]
    have lT3 : (T2 ++ joinT [32, 87, 72, 69, 82, 69, 32] (x.where_.map printF) ++ joinT [32, 71, 82, 79, 85, 80, 32, 66, 89, 32] (x.group.map printF)).length ≤ 500000000000 := by
      simp only [List.length_append]; omega
    generalize T2 ++ joinT [32, 87, 72, 69, 82, 69, 32] (x.where_.map printF) ++ joinT [32, 71, 82, 79, 85, 80, 32, 66, 89, 32] (x.group.map printF) = T3 at *
    clear l1 l2 l3 l4 lT2 eq lj
    have l12 : aLd τ none (.rf 0 14 0 12) = some (.tr (x.order.map encO)) := ld_box hA rfl
    have l13 : aLd τ none (.rf 0 14 0 13) = some (.sc (.int .i64 x.limit)) := ld_box hA rfl
    refine LOOP_list x.order (fun i st => ∃ p q r, st = [p, q, r, .s (T3 ++ joinT [32, 79, 82, 68, 69, 82, 32, 66, 89, 32] ((x.order.take i).map ordT)), .sc (.int .i64 i)]) ⟨.tp [], .tp [], .tp [], by simp [joinT]⟩ ?_ ?_
    · rintro i o K st n' hx hi hi' hn ⟨p, q, r, rfl⟩ hK
      have hm := List.mem_of_getElem? hx
      have ho := hk.ord o hm
      have ht := joinT_take ordT [32, 79, 82, 68, 69, 82, 32, 66, 89, 32] hx
      have hle := joinT_le (x.order.map ordT) [32, 79, 82, 68, 69, 82, 32, 66, 89, 32] i
      rw [← List.map_take] at hle
      have hd := decF_len 40 o.n
      have ia : aIad 2 (.tr (x.order.map encO)) (.sc (.int .i64 i)) = some (.fp (encO o)) := by rw [aIad_tr, if_pos (by omega), Int.toNat_natCast, List.getElem?_map, hx]; rfl
      rw [lb_ref04_selected6]
      simp only [List.getD_cons_succ, List.getD_cons_zero, aFad_rf, Nat.zero_add, bindP_some, l12, l13, len_tr]
      intro hbn
      rw [bindP_ltI, COND_yes hi', JOIN_eq, JOIN_eq, bindP_eqI]
      have go : ∀ (v : AV) (t : Tx), t = T3 ++ joinT [32, 79, 82, 68, 69, 82, 32, 66, 89, 32] ((x.order.take i).map ordT) ++ (if i = 0 then [32, 79, 82, 68, 69, 82, 32, 66, 89, 32] else [44, 32]) → jk_ref04_selected2 (.rf 0 14 0 0) [p, q, r, .s (T3 ++ joinT [32, 79, 82, 68, 69, 82, 32, 66, 89, 32] ((x.order.take i).map ordT)), .sc (.int .i64 i)] (jk_ref04_selected3 [p, q, r, .s (T3 ++ joinT [32, 79, 82, 68, 69, 82, 32, 66, 89, 32] ((x.order.take i).map ordT)), .sc (.int .i64 i)] K (.sc (.bool (decide ((i : Int) < (x.order.length : Int)))))) R [v, .s t] τ n' := by
        intro v t ht0
        have lt0 : t.length ≤ 600000000000 := by
          rw [ht0]; split <;> simp only [List.length_append, List.length_cons, List.length_nil] <;> omega
        have fin : ∀ (u : Tx) (n4 : Nat) (v1 v2 : AV), n' ≤ n4 → u = t ++ ordT o → jk_ref04_selected3 [p, q, r, .s (T3 ++ joinT [32, 79, 82, 68, 69, 82, 32, 66, 89, 32] ((x.order.take i).map ordT)), .sc (.int .i64 i)] K (.sc (.bool (decide ((i : Int) < (x.order.length : Int))))) [v1, v2, .s u] τ n4 := by
          intro u n4 v1 v2 hn4 hu
          rw [jk_ref04_selected3]
          simp only [List.getD_cons_succ, List.getD_cons_zero]
          rw [addI hi' hbn (List.length_map _), bindP_some]
          have e : u = T3 ++ joinT [32, 79, 82, 68, 69, 82, 32, 66, 89, 32] ((x.order.take (i + 1)).map ordT) := by
            rw [hu, ht0, ht]
            simp only [List.append_assoc]
          rw [e]
          exact hK _ _ (by omega) ⟨_, _, _, rfl⟩
        rw [jk_ref04_selected2]
        simp only [List.getD_cons_succ, List.getD_cons_zero, aFad_rf, Nat.zero_add, bindP_some, l12]
        rw [ia, bindP_some, show aFad 0 (.fp (encO o)) = some (.fp (encO o)) from rfl, bindP_some, show aLd τ none (.fp (encO o)) = some (.sc (.int .i64 o.n)) from rfl, bindP_some]
        refine CALL_con0 (rfDecimal_con o.n (by unfold rng; omega)) rfl ?_
        rw [kc_ref04_selected1, onEnd_ret]
        simp only [List.getD_cons_succ, List.getD_cons_zero, aFad_rf, Nat.zero_add, bindP_some, l12]
        rw [bindP_addT (by omega), ia, bindP_some, show aFad 1 (.fp (encO o)) = some (.fp [.sc (.bool o.desc)]) from rfl, bindP_some, show aLd τ none (.fp [.sc (.bool o.desc)]) = some (.sc (.bool o.desc)) from rfl, bindP_some]
        cases hdd : o.desc with
        | true =>
          rw [COND_true, bindP_addT (by simp only [List.length_append, List.length_cons, List.length_nil]; omega)]
          exact fin _ _ _ _ (Nat.le_refl _) (by rw [ordT, hdd, if_pos rfl, List.append_assoc])
        | false =>
          rw [COND_false]
          exact fin _ _ _ _ (Nat.le_refl _) (by rw [ordT, hdd]; simp)
      by_cases h0 : i = 0
      · rw [COND_yes (by omega), bindP_addT (by simp only [List.length_append, List.length_cons, List.length_nil]; omega)]
        exact go _ _ (by rw [if_pos h0])
      · rw [COND_no (by omega), bindP_addT (by simp only [List.length_append, List.length_cons, List.length_nil]; omega)]
        exact go _ _ (by rw [if_neg h0])
    · rintro K st n' hn ⟨p, q, r, rfl⟩
      rw [lb_ref04_selected6]
      simp only [List.getD_cons_succ, List.getD_cons_zero, aFad_rf, Nat.zero_add, bindP_some, l12, l13, len_tr]
      intro hbn
      rw [bindP_ltI, COND_no (Int.lt_irrefl _), List.take_length, JOIN_eq, bin_geq, bindP_some]
      by_cases hlm : 0 ≤ x.limit
      · rw [if_pos hlm] at HR
        rw [COND_yes hlm, bindP_addT (by simp only [List.length_append, List.length_cons, List.length_nil]; omega)]
        refine CALL_con0 (rfDecimal_con x.limit (by have := hk.limit; unfold rng; omega)) rfl ?_
        rw [kc_ref04_selected4, onEnd_ret, bindP_addT (by simp only [List.length_append, List.length_cons, List.length_nil]; omega), jk_ref04_selected5, ← HR.out]
        exact RC_ret rfl (by simp only [List.getD_cons_succ, List.getD_cons_zero, List.append_assoc])
      · rw [if_neg hlm] at HR
        rw [COND_no hlm, jk_ref04_selected5, ← HR.out, List.append_nil]
        exact RC_ret rfl rfl
  have HRest := Lib.hid rest; clear rest
  simp only [aFad_rf, Nat.zero_add, bindP_some]
  rw [show aLd τ none (.rf 0 14 0 8) = some (.s x.join) from ld_box hA rfl, bindP_some, binS_neq, bindP_some]
  by_cases hjn : x.join = []
  · rw [if_pos hjn, hs.on.2 hjn] at HRest
    rw [show (!decide (x.join = [])) = false by simp [hjn], COND_false]
    have := HRest.out (.sc (.bool false)) n_
    simpa [joinT] using this
  · rw [if_neg hjn] at HRest
    rw [show (!decide (x.join = [])) = true by simp [hjn], COND_true, bindP_addT (by simp only [List.length_cons, List.length_nil]; omega), bindP_some, bindP_addT (by simp only [List.length_append, List.length_cons, List.length_nil]; omega), show aLd τ none (.rf 0 14 0 9) = some (.tr (x.on.map encE)) from ld_box hA rfl, bindP_some]
    refine callD_con0 (rfWith_con [79, 78] x.on hb.on hg.on (hk.ok _ (in_on x)) hk.on (by decide)) rfl ?_
    rw [show ([32] ++ [79, 78] ++ [32] : Tx) = [32, 79, 78, 32] from rfl, kd_ref04_selected9, onEnd_ret, bindP_addT (by simp only [List.length_append, List.length_cons, List.length_nil]; omega)]
    refine ⟨aptn _ _, aptn _ _, fun n3 hn3 => ?_⟩
    simp only [applyW_nil]
    have := HRest.out (.sc (.bool true)) n3
    simpa only [List.append_assoc] using this
end Go.Proofs.YtodoejfkjimeaaaGreatDoor
