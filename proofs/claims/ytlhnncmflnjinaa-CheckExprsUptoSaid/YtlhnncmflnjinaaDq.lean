/- The document's expr, Expr; CopyExpr. -/
import Derived.Test.YtlhnncmflnjinaaDo
import Derived.Test.YtlhnncmflnjinaaDj
import Derived.Test.YtlhnncmflnjinaaDh
import Derived.Test.YtlhnncmflnjinaaDe
set_option linter.unusedSimpArgs false
set_option linter.unusedVariables false
set_option maxRecDepth 100000
namespace Go.Proofs.Ytlhnncmflnjinaa
open Go Go.RowKit Am

set_option maxHeartbeats 8000000 in
theorem rfexpr_con (ts : List Tb) (hts : ts.length ≤ 2) (hc : ∀ t ∈ ts, t.columns.length ≤ 1048576) (e : Ep) (he : Gd e) : ∀ (agg : Bool), Con Try.prog 54 [.tr (ts.map encT), .ag (encE e), .sc (.bool agg)] (tripEnd (exprF ts e agg)) := by
  induction he with
  | mk e hp ha ih =>
    intro agg
    refine con_of (by_ref07_expr ?_)
    generalize hR : RC _ = R
    have HR := Lib.hid hR; clear hR
    have HC := Lib.hid hc; clear hc
    have IH := Lib.hid ih; clear ih ha
    obtain ⟨hop0, hop, hlen2, h8, h21⟩ := partOk_op hp
    have harg := (partOk_args hp).2
    clear hp
    have HF := Lib.hid (exprF_eq ts e agg)
    by_cases h0 : e.op = 0
    · simp (maxSteps := 1000000) (disch := omega) only [sh_ref07_expr, encE_eq, go_sem, wrapI, wrapB, upd_is, upd_not, Nat.reduceAdd, Nat.reduceSub, Nat.reduceMul, Nat.reduceLeDiff, Nat.reduceEqDiff, Int.reduceAdd, Int.reduceSub, Int.reduceMul, Int.reduceNeg, Int.reduceLT, Int.reduceLE, Int.reduceEq, Int.reduceToNat, reduceCtorEq, reduceIte, Nat.zero_add, Nat.add_zero, *]
      refine And.intro (by omega) (fun n_ hn_ => ?_)
      rw [← HR.out, HF.out, if_pos h0]
      exact RC_ret rfl (by simp only [tripEnd, encE_eq, h0])
    · by_cases h1 : e.op = 1
      · have hpl := rfplace_con ts e hts HC.out
        simp (maxSteps := 1000000) (disch := omega) only [sh_ref07_expr, encE_eq, go_sem, wrapI, wrapB, upd_is, upd_not, Nat.reduceAdd, Nat.reduceSub, Nat.reduceMul, Nat.reduceLeDiff, Nat.reduceEqDiff, Int.reduceAdd, Int.reduceSub, Int.reduceMul, Int.reduceNeg, Int.reduceLT, Int.reduceLE, Int.reduceEq, Int.reduceToNat, reduceCtorEq, reduceIte, Nat.zero_add, Nat.add_zero, *]
        refine CALL_con0 hpl (by simp only [encE_eq, h1]; rfl) ?_
        have HF2 := Lib.hid ((if_neg h0 ▸ if_pos h1 ▸ HF.out : exprF ts e agg = _))
        clear HF hpl
        cases hq : placeE e.table e.name ts with
        | error x =>
          have hx := placeE_err hq
          rw [hq] at HF2
          clear hq
          simp (maxSteps := 1000000) (disch := omega) only [tripEnd3, go_sem, wrapI, wrapB, upd_is, upd_not, Nat.reduceAdd, Nat.reduceSub, Nat.reduceMul, Nat.reduceLeDiff, Nat.reduceEqDiff, Int.reduceAdd, Int.reduceSub, Int.reduceMul, Int.reduceNeg, Int.reduceLT, Int.reduceLE, Int.reduceEq, Int.reduceToNat, reduceCtorEq, reduceIte, Nat.zero_add, Nat.add_zero, *]
          rw [← HR.out, HF2.out]; exact RC_ret rfl rfl
        | ok p =>
          rw [hq] at HF2
          clear hq
          simp (maxSteps := 1000000) (disch := omega) only [tripEnd3, go_sem, wrapI, wrapB, upd_is, upd_not, Nat.reduceAdd, Nat.reduceSub, Nat.reduceMul, Nat.reduceLeDiff, Nat.reduceEqDiff, Int.reduceAdd, Int.reduceSub, Int.reduceMul, Int.reduceNeg, Int.reduceLT, Int.reduceLE, Int.reduceEq, Int.reduceToNat, reduceCtorEq, reduceIte, Nat.zero_add, Nat.add_zero, *]
          refine CALL_con0 (rfPlace_con p.1) rfl ?_
          simp (maxSteps := 1000000) (disch := omega) only [go_sem, wrapI, wrapB, upd_is, upd_not, Nat.reduceAdd, Nat.reduceSub, Nat.reduceMul, Nat.reduceLeDiff, Nat.reduceEqDiff, Int.reduceAdd, Int.reduceSub, Int.reduceMul, Int.reduceNeg, Int.reduceLT, Int.reduceLE, Int.reduceEq, Int.reduceToNat, reduceCtorEq, reduceIte, Nat.zero_add, Nat.add_zero, *]
          rw [← HR.out, HF2.out]
          exact RC_ret (I := []) (by simp only [brw_tp, brwL_cons, brwL_nil, brw_sc, brw_ag, encE_brw, Option.map_some, List.append_nil]) rfl
      · simp (maxSteps := 1000000) (disch := omega) only [sh_ref07_expr, encE_eq, go_sem, wrapI, wrapB, upd_is, upd_not, Nat.reduceAdd, Nat.reduceSub, Nat.reduceMul, Nat.reduceLeDiff, Nat.reduceEqDiff, Int.reduceAdd, Int.reduceSub, Int.reduceMul, Int.reduceNeg, Int.reduceLT, Int.reduceLE, Int.reduceEq, Int.reduceToNat, reduceCtorEq, reduceIte, Nat.zero_add, Nat.add_zero, *]
        have HF2 := Lib.hid ((if_neg h0 ▸ if_neg h1 ▸ HF.out : exprF ts e agg = _))
        clear HF
        refine LOOP_listM e.args (fun i s σ' n' => (∃ a b c d x y z kv av, s = [a, b, c, d, x, y, z, kv, .sc (.int .i64 i)] ∧ σ' 0 = some (.c ⟨7, [encE e], true, false⟩) ∧ σ' 16 = some (.c ⟨7, [[.sc (.int .i64 0), .sc (.int .i64 0), .sc (.int .i64 0), .s [], .s [], .s [], .em]], true, false⟩) ∧
            σ' 32 = some (.c ⟨7, [[.sc (.int .i64 e.op), .sc (.int .i64 0), .sc (.int .i64 0), .s [], .s [], .s [], av]], true, false⟩) ∧
            ∃ ps, exprL ts (e.args.take i) (agg && decide (e.op < 18)) = .ok ps ∧ ps.length = i ∧
              ((i = 0 ∧ kv = .em ∧ av = .em) ∨ ∃ i1 i2, i1 < n' ∧ i2 < n' ∧ 32 < i1 ∧ 32 < i2 ∧ i1 ≠ i2 ∧ kv = .ow i1 1 0 i ∧ av = .ow i2 7 0 i ∧ σ' i1 = some (.c ⟨1, ps.map (fun p => encI p.2), true, true⟩) ∧ σ' i2 = some (.c ⟨7, ps.map (fun p => encE p.1), true, true⟩)))) (.refl ⟨_, _, _, _, _, _, _, _, _, rfl, ?_, ?_, ?_, [], rfl, rfl, Or.inl ⟨rfl, rfl, rfl⟩⟩) ?_ ?_
        · rw [encE_eq]; rfl
        · rfl
        · rfl
        · rintro i x K s' σ' n2 hx hi hi' hn ⟨a, b, c, d, xx, yy, zz, kv, av, rfl, hb0, hb1, hb2, ps, hps, hpl, hor⟩ hK
          have HT := Lib.hid (exprL_take hx hps)
          have HI := Lib.hid (IH.out x (List.mem_of_getElem? hx) (agg && decide (e.op < 18)))
          have HK := Lib.hid hK; clear hK
          have HPS := Lib.hid hps; clear hps IH
          have hb0' := hb0
          rw [encE_eq] at hb0
          have HB0 := Lib.hid hb0'; clear hb0'
          have h32 : 48 ≤ n2 := by omega
          have HU : ∀ x : Int, exprL ts (e.args.take (i + 1)) (agg && decide (e.op < 18)) = .error x → exprF ts e agg = .error x := by
            intro x hx
            rw [HF2.out, exprL_err hx]
          have HU' := Lib.hid HU; clear HU
          have harg' := Lib.hid harg; clear harg
          have go : ∀ v47, (v47 = AV.tp [] ∨ v47 = .rf 0 7 0 0) → callD Try.prog (.fn 54 []) [.tr (ts.map encT), .ag (encE x), .sc (.bool (agg && decide (e.op < 18)))] σ' (n2 + 192)
              (kd_ref07_expr3 n2 σ' (.rf 0 7 0 6) v47 (.fp (encE x)) (.rf 16 7 0 0) R (.rf 32 7 0 0) [a, b, c, d, xx, yy, zz, kv, .sc (.int .i64 i)] K (.sc (.bool true))) := by
            intro v47 hv47
            refine callD_con0 HI.out (by simp only [brwL_cons, brwL_nil, brw_ag, brw_sc, brw_tr, encE_brw, List.append_nil, Option.map_some]) ?_
            cases hq : exprF ts x (agg && decide (e.op < 18)) with
            | error y =>
              have h1 := HU'.out y (by rw [HT.out, hq])
              have hy := exprF_err hq
              have H1 := Lib.hid h1; clear h1 hq
              unfold kd_ref07_expr3
              rcases hv47 with rfl | rfl
              all_goals
                simp (maxSteps := 1000000) (disch := omega) only [tripEnd, go_sem, wrapI, wrapB, upd_is, upd_not, Nat.reduceAdd, Nat.reduceSub, Nat.reduceMul, Nat.reduceLeDiff, Nat.reduceEqDiff, Int.reduceAdd, Int.reduceSub, Int.reduceMul, Int.reduceNeg, Int.reduceLT, Int.reduceLE, Int.reduceEq, Int.reduceToNat, reduceCtorEq, reduceIte, Nat.zero_add, Nat.add_zero, *]
                try refine ⟨fun x hx => by omega, ?_⟩
                try refine ⟨fun x hx => by omega, ?_⟩
                intro n_ hn_
                rw [← HR.out, H1.out]; exact RC_ret rfl rfl
            | ok p =>
              unfold kd_ref07_expr3
              rcases hor with ⟨rfl, rfl, rfl⟩ | ⟨i1, i2, hl1, hl2, hg1, hg2, hne, rfl, rfl, hs1, hs2⟩
              · rcases hv47 with rfl | rfl
                all_goals
                  simp (maxSteps := 1000000) (disch := omega) only [tripEnd, go_sem, wrapI, wrapB, upd_is, upd_not, Nat.reduceAdd, Nat.reduceSub, Nat.reduceMul, Nat.reduceLeDiff, Nat.reduceEqDiff, Int.reduceAdd, Int.reduceSub, Int.reduceMul, Int.reduceNeg, Int.reduceLT, Int.reduceLE, Int.reduceEq, Int.reduceToNat, reduceCtorEq, reduceIte, Nat.zero_add, Nat.add_zero, *]
                  try refine ⟨fun x hx => by omega, ?_⟩
                  try refine ⟨fun x hx => by omega, ?_⟩
                  intro n_ hn_
                  simp (maxSteps := 1000000) (disch := omega) only [go_sem, wrapI, wrapB, upd_is, upd_not, Nat.reduceAdd, Nat.reduceSub, Nat.reduceMul, Nat.reduceLeDiff, Nat.reduceEqDiff, Int.reduceAdd, Int.reduceSub, Int.reduceMul, Int.reduceNeg, Int.reduceLT, Int.reduceLE, Int.reduceEq, Int.reduceToNat, reduceCtorEq, reduceIte, Nat.zero_add, Nat.add_zero, *]
                  refine HK.out _ _ _ (.refl ⟨_, _, _, _, _, _, _, _, .ow (n_ + 16) 7 0 1, rfl, ?_, ?_, ?_, [p], ?_, rfl, Or.inr ⟨n_ + 16 + 16 + 16, n_ + 16, ?_, ?_, ?_, ?_, ?_, rfl, rfl, ?_, ?_⟩⟩)
                  · simp (disch := omega) only [upd_not]; exact HB0.out
                  · simp (disch := omega) only [upd_not]; exact hb1
                  · simp (disch := omega) only [upd_not, upd_is]
                  · have hps0 := List.eq_nil_of_length_eq_zero hpl
                    rw [HT.out, hq, hps0]; rfl
                  · omega
                  · omega
                  · omega
                  · omega
                  · omega
                  · simp (disch := omega) only [upd_not, upd_is]; rfl
                  · simp (disch := omega) only [upd_not, upd_is]; rfl
              · have c1 : (i + 1) * 96 ≤ 140737488355328 := by omega
                have c3 : (i + 1) * 8 ≤ 140737488355328 := by omega
                rcases hv47 with rfl | rfl
                all_goals
                  simp (maxSteps := 1000000) (disch := omega) only [tripEnd, go_sem, wrapI, wrapB, upd_is, upd_not, Nat.reduceAdd, Nat.reduceSub, Nat.reduceMul, Nat.reduceLeDiff, Nat.reduceEqDiff, Int.reduceAdd, Int.reduceSub, Int.reduceMul, Int.reduceNeg, Int.reduceLT, Int.reduceLE, Int.reduceEq, Int.reduceToNat, reduceCtorEq, reduceIte, Nat.zero_add, Nat.add_zero, *]
                  try refine ⟨fun x hx => by omega, ?_⟩
                  try refine ⟨fun x hx => by omega, ?_⟩
                  intro n_ hn_
                  have c2 : ¬ i2 = n_ + 16 := by omega
                  have c4 : ¬ i1 = n_ + 16 + 16 + 16 := by omega
                  simp (maxSteps := 1000000) (disch := omega) only [go_sem, wrapI, wrapB, upd_is, upd_not, Nat.reduceAdd, Nat.reduceSub, Nat.reduceMul, Nat.reduceLeDiff, Nat.reduceEqDiff, Int.reduceAdd, Int.reduceSub, Int.reduceMul, Int.reduceNeg, Int.reduceLT, Int.reduceLE, Int.reduceEq, Int.reduceToNat, reduceCtorEq, reduceIte, Nat.zero_add, Nat.add_zero, *]
                  refine HK.out _ _ _ (.refl ⟨_, _, _, _, _, _, _, _, .ow (n_ + 16) 7 0 (i + 1), rfl, ?_, ?_, ?_, ps ++ [p], ?_, ?_, Or.inr ⟨n_ + 16 + 16 + 16, n_ + 16, ?_, ?_, ?_, ?_, ?_, rfl, rfl, ?_, ?_⟩⟩)
                  · simp (disch := omega) only [upd_not]; exact HB0.out
                  · simp (disch := omega) only [upd_not]; exact hb1
                  · simp (disch := omega) only [upd_not, upd_is]
                  · rw [HT.out, hq]
                  · simp [hpl]
                  · omega
                  · omega
                  · omega
                  · omega
                  · omega
                  · simp (disch := omega) only [upd_not, upd_is]; rw [List.map_append]; rfl
                  · simp (disch := omega) only [upd_not, upd_is]; rw [List.map_append]; rfl
          cases agg
          · have GO := Lib.hid (go (.tp []) (.inl rfl))
            simp (maxSteps := 1000000) (disch := omega) only [lb_ref07_expr5, go_sem, wrapI, wrapB, upd_is, upd_not, Nat.reduceAdd, Nat.reduceSub, Nat.reduceMul, Nat.reduceLeDiff, Nat.reduceEqDiff, Int.reduceAdd, Int.reduceSub, Int.reduceMul, Int.reduceNeg, Int.reduceLT, Int.reduceLE, Int.reduceEq, Int.reduceToNat, reduceCtorEq, reduceIte, Nat.zero_add, Nat.add_zero, *]
            intro _
            exact GO.out
          · have GO := Lib.hid (go (.rf 0 7 0 0) (.inr rfl))
            simp (maxSteps := 1000000) (disch := omega) only [lb_ref07_expr5, go_sem, wrapI, wrapB, upd_is, upd_not, Nat.reduceAdd, Nat.reduceSub, Nat.reduceMul, Nat.reduceLeDiff, Nat.reduceEqDiff, Int.reduceAdd, Int.reduceSub, Int.reduceMul, Int.reduceNeg, Int.reduceLT, Int.reduceLE, Int.reduceEq, Int.reduceToNat, reduceCtorEq, reduceIte, Nat.zero_add, Nat.add_zero, *]
            intro _
            exact GO.out
        · rintro K s' σ' n2 hn ⟨a, b, c, d, xx, yy, zz, kv, av, rfl, hb0, hb1, hb2, ps, hps, hpl, hor⟩
          rw [List.take_length] at hps
          have HF3 := Lib.hid (HF2.out.trans (by rw [hps]; rfl) : exprF ts e agg = match kindE e.op (ps.map (·.2)) with
            | .error x => .error x
            | .ok k => if (agg || decide (e.op < 18)) = true then .ok (.mk e.op 0 0 [] [] [] (ps.map (·.1)), k) else .error 1)
          have hk := rfKind_con e.op (ps.map (·.2)) ⟨by omega, hop⟩ (by rw [List.length_map, hpl]; exact harg)
          clear HF2 HC IH hps
          rw [encE_eq] at hb0
          have HQ := Lib.hid hk; clear hk harg
          have fin : kc_ref07_expr4 (.rf 16 7 0 0) R (.rf 0 7 0 0) (.sc (.bool agg)) (.rf 32 7 0 0) (twoEnd (kindE e.op (ps.map (·.2)))) σ' n2 := by
            clear HQ
            cases hkk : kindE e.op (ps.map (·.2)) with
            | error y =>
              have hy := kindE_err hkk
              have HG := Lib.hid (HF3.out.trans (by rw [hkk]) : exprF ts e agg = .error y)
              clear HF3 hkk hor
              simp (maxSteps := 1000000) (disch := omega) only [twoEnd, go_sem, wrapI, wrapB, upd_is, upd_not, Nat.reduceAdd, Nat.reduceSub, Nat.reduceMul, Nat.reduceLeDiff, Nat.reduceEqDiff, Int.reduceAdd, Int.reduceSub, Int.reduceMul, Int.reduceNeg, Int.reduceLT, Int.reduceLE, Int.reduceEq, Int.reduceToNat, reduceCtorEq, reduceIte, Nat.zero_add, Nat.add_zero, *]
              rw [← HR.out, HG.out]; exact RC_ret rfl rfl
            | ok k =>
              have HG := Lib.hid (HF3.out.trans (by rw [hkk]) : exprF ts e agg = if (agg || decide (e.op < 18)) = true then .ok (.mk e.op 0 0 [] [] [] (ps.map (·.1)), k) else .error 1)
              clear HF3 hkk
              have last : (agg || decide (e.op < 18)) = true → RC (tripEnd (exprF ts e agg)) (.ret (.tp [.ag [.sc (.int .i64 e.op), .sc (.int .i64 0), .sc (.int .i64 0), .s [], .s [], .s [], av], .sc (.int .i64 k), .sc (.int .i64 0)])) (upd σ' 16 (some (.c ⟨7, [[.sc (.int .i64 e.op), .sc (.int .i64 0), .sc (.int .i64 0), .s [], .s [], .s [], av]], true, false⟩))) (n2 + 16) := by
                intro hag
                rw [if_pos hag] at HG
                rw [HG.out]
                have hav : ∃ I, brw (upd σ' 16 (some (.c ⟨7, [[.sc (.int .i64 e.op), .sc (.int .i64 0), .sc (.int .i64 0), .s [], .s [], .s [], av]], true, false⟩))) 1 av = some (.tr (ps.map (fun p => encE p.1)), I) := by
                  rcases hor with ⟨hn0, rfl, rfl⟩ | ⟨i1, i2, hl1, hl2, hg1, hg2, hne, rfl, rfl, hs1, hs2⟩
                  · have hps0 : ps = [] := List.eq_nil_of_length_eq_zero (hpl.trans hn0)
                    subst hps0
                    exact ⟨[], rfl⟩
                  · exact ⟨[i2], brw_all (by rw [upd_not (by omega)]; exact hs2) (by rw [List.length_map, hpl]) (by omega)⟩
                obtain ⟨I, hI⟩ := hav
                refine RC_ret (c := .tp [.ag (encE (.mk e.op 0 0 [] [] [] (ps.map (·.1)))), .sc (.int .i64 k), .sc (.int .i64 0)]) (I := [] ++ ([] ++ ([] ++ ([] ++ ([] ++ ([] ++ (I ++ [])))))) ++ ([] ++ ([] ++ []))) ?_ rfl
                simp only [brw_tp, brwL_cons, brwL_nil, brw_sc, brw_ag, brw_s, hI, Option.map_some]
                rw [encE_eq (.mk e.op 0 0 [] [] [] (ps.map (·.1)))]
                simp [List.map_map, Function.comp_def, Ep.op, Ep.args, Ep.kind, Ep.n, Ep.text, Ep.table, Ep.name]
              have HLAST := Lib.hid last; clear last
              have hav2 : leafok av = true := by rcases hor with ⟨_, _, rfl⟩ | ⟨_, _, _, _, _, _, _, _, rfl, _, _⟩ <;> rfl
              clear hor
              by_cases h18 : 18 ≤ e.op
              · cases agg with
                | true =>
                  simp (maxSteps := 1000000) (disch := omega) only [twoEnd, go_sem, wrapI, wrapB, upd_is, upd_not, Nat.reduceAdd, Nat.reduceSub, Nat.reduceMul, Nat.reduceLeDiff, Nat.reduceEqDiff, Int.reduceAdd, Int.reduceSub, Int.reduceMul, Int.reduceNeg, Int.reduceLT, Int.reduceLE, Int.reduceEq, Int.reduceToNat, reduceCtorEq, reduceIte, Nat.zero_add, Nat.add_zero, *]
                  rw [← HR.out]; exact HLAST.out rfl
                | false =>
                  rw [if_neg (by simp; omega)] at HG
                  simp (maxSteps := 1000000) (disch := omega) only [twoEnd, go_sem, wrapI, wrapB, upd_is, upd_not, Nat.reduceAdd, Nat.reduceSub, Nat.reduceMul, Nat.reduceLeDiff, Nat.reduceEqDiff, Int.reduceAdd, Int.reduceSub, Int.reduceMul, Int.reduceNeg, Int.reduceLT, Int.reduceLE, Int.reduceEq, Int.reduceToNat, reduceCtorEq, reduceIte, Nat.zero_add, Nat.add_zero, *]
                  rw [← HR.out, HG.out]; exact RC_ret rfl rfl
              · have hag : (agg || decide (e.op < 18)) = true := by rw [decide_eq_true (by omega : e.op < 18), Bool.or_true]
                have hl2 := HLAST.out hag
                have HL2 := Lib.hid hl2; clear hl2 HLAST hag HG
                simp (maxSteps := 1000000) (disch := omega) only [twoEnd, go_sem, wrapI, wrapB, upd_is, upd_not, Nat.reduceAdd, Nat.reduceSub, Nat.reduceMul, Nat.reduceLeDiff, Nat.reduceEqDiff, Int.reduceAdd, Int.reduceSub, Int.reduceMul, Int.reduceNeg, Int.reduceLT, Int.reduceLE, Int.reduceEq, Int.reduceToNat, reduceCtorEq, reduceIte, Nat.zero_add, Nat.add_zero, *]
                rw [← HR.out]; exact HL2.out
          rcases hor with ⟨hn0, rfl, rfl⟩ | ⟨i1, i2, hl1, hl2, hg1, hg2, hne, rfl, rfl, hs1, hs2⟩
          · have hps0 : ps = [] := List.eq_nil_of_length_eq_zero (hpl.trans hn0)
            subst hps0
            have HFIN := Lib.hid fin; clear fin
            simp (maxSteps := 1000000) (disch := omega) only [lb_ref07_expr5, Int.lt_irrefl, go_sem, wrapI, wrapB, upd_is, upd_not, Nat.reduceAdd, Nat.reduceSub, Nat.reduceMul, Nat.reduceLeDiff, Nat.reduceEqDiff, Int.reduceAdd, Int.reduceSub, Int.reduceMul, Int.reduceNeg, Int.reduceLT, Int.reduceLE, Int.reduceEq, Int.reduceToNat, reduceCtorEq, reduceIte, Nat.zero_add, Nat.add_zero, *]
            intros
            exact CALL_con0 HQ.out rfl HFIN.out
          · have HFIN := Lib.hid fin; clear fin
            simp (maxSteps := 1000000) (disch := omega) only [lb_ref07_expr5, Int.lt_irrefl, go_sem, wrapI, wrapB, upd_is, upd_not, Nat.reduceAdd, Nat.reduceSub, Nat.reduceMul, Nat.reduceLeDiff, Nat.reduceEqDiff, Int.reduceAdd, Int.reduceSub, Int.reduceMul, Int.reduceNeg, Int.reduceLT, Int.reduceLE, Int.reduceEq, Int.reduceToNat, reduceCtorEq, reduceIte, Nat.zero_add, Nat.add_zero, *]
            intros
            have hb : brwL σ' 3 ([.sc (.int .i64 e.op), .ow i1 1 0 e.args.length] ++ []) = some ([.sc (.int .i64 e.op), .tr ((ps.map (·.2)).map encI)], [i1]) := by
              have hlm : (ps.map (fun p => encI p.2)).length = e.args.length := by rw [List.length_map, hpl]
              simp only [List.append_nil, brwL_cons, brwL_nil, brw_sc, brw_all hs1 hlm (by omega)]
              simp [List.map_map, Function.comp_def]
            have h2 := HFIN.out
            have h3 := HQ.out
            revert h2 h3
            cases kindE e.op (ps.map (·.2)) with
            | error y => exact fun h2 h3 => CALL_conS h3 hb rfl h2
            | ok k => exact fun h2 h3 => CALL_conS h3 hb rfl h2
end Go.Proofs.Ytlhnncmflnjinaa
set_option maxRecDepth 100000
namespace Go.Proofs.Ytlhnncmflnjinaa
open Go Go.RowKit Am

theorem encE_all (l : List Ep) : ((l.map encE).all fun r => r.length == 7) = true := all_enc encE 7 encE_len l
theorem encE_leafs (l : List Ep) : ((l.map encE).all fun r => r.all leafok) = true := by simp [encE_leaf]
attribute [go_sem] encE_all encE_leafs
set_option maxHeartbeats 4000000 in
theorem copyL_con (l : List Ep) (hl : l.length ≤ 1048576) (h : ∀ a ∈ l, Con Try.prog 13 [.ag (encE a)] (.ret (.ag (encE a)))) : Con Try.prog 48 [.tr (l.map encE)] (.ret (.tr (l.map encE))) := by
  refine con_of (by_plain_CopyExprs ?_)
  generalize hR : RC _ = R
  have HR := Lib.hid hR; clear hR
  have HB := Lib.hid h; clear h
  rw [sh_plain_CopyExprs]
  refine LOOP_listM l (fun i s σ' n' => ∃ a ov, s = [a, ov, .sc (.int .i64 i)] ∧ ((i = 0 ∧ ov = .em) ∨ ∃ i1, i1 < n' ∧ ov = .ow i1 7 0 i ∧ σ' i1 = some (.c ⟨7, (l.take i).map encE, true, true⟩))) (.refl ⟨_, _, rfl, .inl ⟨rfl, rfl⟩⟩) ?_ ?_
  · rintro i x K s' σ' n2 hx hi1 hi' hn1 ⟨a, ov, rfl, hov⟩ hK
    have HK := Lib.hid hK; clear hK
    have ht : (l.take (i + 1)).map encE = (l.take i).map encE ++ [encE x] := by rw [List.take_add_one, hx, List.map_append]; rfl
    have HT := Lib.hid ht; clear ht
    have HC := HB.out x (List.mem_of_getElem? hx)
    rcases hov with ⟨rfl, rfl⟩ | ⟨i1, hl1, rfl, hs1⟩
    · simp (maxSteps := 1000000) (disch := omega) only [lb_plain_CopyExprs2, go_sem, wrapI, wrapB, upd_is, upd_not, Nat.reduceAdd, Nat.reduceSub, Nat.reduceMul, Nat.reduceLeDiff, Nat.reduceEqDiff, Int.reduceAdd, Int.reduceSub, Int.reduceMul, Int.reduceNeg, Int.reduceLT, Int.reduceLE, Int.reduceEq, Int.reduceToNat, reduceCtorEq, reduceIte, Nat.zero_add, Nat.add_zero, *]
      intro _
      refine CALL_con0 HC (by simp only [brwL_cons, brwL_nil, brw_ag, encE_brw, List.append_nil, Option.map_some]) ?_
      simp (maxSteps := 1000000) (disch := omega) only [go_sem, wrapI, wrapB, upd_is, upd_not, Nat.reduceAdd, Nat.reduceSub, Nat.reduceMul, Nat.reduceLeDiff, Nat.reduceEqDiff, Int.reduceAdd, Int.reduceSub, Int.reduceMul, Int.reduceNeg, Int.reduceLT, Int.reduceLE, Int.reduceEq, Int.reduceToNat, reduceCtorEq, reduceIte, Nat.zero_add, Nat.add_zero, *]
      refine HK.out _ _ _ (.refl ⟨_, _, rfl, .inr ⟨n2 + 16, by omega, rfl, ?_⟩⟩)
      rw [upd_is rfl, HT.out]; rfl
    · have hl : (List.take i l).length = i := by rw [List.length_take]; omega
      have c1 : (i + 1) * 96 ≤ 140737488355328 := by omega
      have c2 : ¬ i1 = n2 + 16 := by omega
      simp (maxSteps := 1000000) (disch := omega) only [lb_plain_CopyExprs2, go_sem, wrapI, wrapB, upd_is, upd_not, Nat.reduceAdd, Nat.reduceSub, Nat.reduceMul, Nat.reduceLeDiff, Nat.reduceEqDiff, Int.reduceAdd, Int.reduceSub, Int.reduceMul, Int.reduceNeg, Int.reduceLT, Int.reduceLE, Int.reduceEq, Int.reduceToNat, reduceCtorEq, reduceIte, Nat.zero_add, Nat.add_zero, *]
      intro _
      refine CALL_con0 HC (by simp only [brwL_cons, brwL_nil, brw_ag, encE_brw, List.append_nil, Option.map_some]) ?_
      simp (maxSteps := 1000000) (disch := omega) only [go_sem, wrapI, wrapB, upd_is, upd_not, Nat.reduceAdd, Nat.reduceSub, Nat.reduceMul, Nat.reduceLeDiff, Nat.reduceEqDiff, Int.reduceAdd, Int.reduceSub, Int.reduceMul, Int.reduceNeg, Int.reduceLT, Int.reduceLE, Int.reduceEq, Int.reduceToNat, reduceCtorEq, reduceIte, Nat.zero_add, Nat.add_zero, *]
      refine HK.out _ _ _ (.refl ⟨_, _, rfl, .inr ⟨n2 + 16, by omega, rfl, ?_⟩⟩)
      rw [upd_is rfl, HT.out]
  · rintro K s' σ' n2 hn1 ⟨a, ov, rfl, hov⟩
    simp (maxSteps := 1000000) (disch := omega) only [lb_plain_CopyExprs2, Int.lt_irrefl, go_sem, wrapI, wrapB, upd_is, upd_not, Nat.reduceAdd, Nat.reduceSub, Nat.reduceMul, Nat.reduceLeDiff, Nat.reduceEqDiff, Int.reduceAdd, Int.reduceSub, Int.reduceMul, Int.reduceNeg, Int.reduceLT, Int.reduceLE, Int.reduceEq, Int.reduceToNat, reduceCtorEq, reduceIte, Nat.zero_add, Nat.add_zero, *]
    intro _
    rw [← HR.out]
    rcases hov with ⟨h, rfl⟩ | ⟨i1, h1, rfl, h⟩
    · have h3 := List.eq_nil_of_length_eq_zero h
      subst h3; exact RC_ret rfl rfl
    · rw [List.take_length] at h
      exact RC_ret (c := .tr (l.map encE)) (I := [i1]) (brw_all h (List.length_map _) (by omega)) rfl
theorem copy_con (e : Ep) (hb : Bd e) : Con Try.prog 13 [.ag (encE e)] (.ret (.ag (encE e))) := by
  induction hb with
  | mk op kind n text table name args h1 h2 h3 h4 h ih =>
    refine con_of (by_plain_CopyExpr ?_)
    have HL := Lib.hid (copyL_con args h4 ih)
    clear ih h h1 h2 h3 h4
    simp (maxSteps := 1000000) (disch := omega) only [sh_plain_CopyExpr, encE_eq, Ep.op, Ep.kind, Ep.n, Ep.text, Ep.table, Ep.name, Ep.args, go_sem, wrapI, wrapB, upd_is, upd_not, Nat.reduceAdd, Nat.reduceSub, Nat.reduceMul, Nat.reduceLeDiff, Nat.reduceEqDiff, Int.reduceAdd, Int.reduceSub, Int.reduceMul, Int.reduceNeg, Int.reduceLT, Int.reduceLE, Int.reduceEq, Int.reduceToNat, reduceCtorEq, reduceIte, Nat.zero_add, Nat.add_zero, *]
    refine CALL_con0 HL.out rfl ?_
    simp (maxSteps := 1000000) (disch := omega) only [go_sem, wrapI, wrapB, upd_is, upd_not, Nat.reduceAdd, Nat.reduceSub, Nat.reduceMul, Nat.reduceLeDiff, Nat.reduceEqDiff, Int.reduceAdd, Int.reduceSub, Int.reduceMul, Int.reduceNeg, Int.reduceLT, Int.reduceLE, Int.reduceEq, Int.reduceToNat, reduceCtorEq, reduceIte, Nat.zero_add, Nat.add_zero, *]
    exact RC_ret rfl rfl
end Go.Proofs.Ytlhnncmflnjinaa
set_option maxRecDepth 100000
namespace Go.Proofs.Ytlhnncmflnjinaa
open Go Go.RowKit Am

set_option maxHeartbeats 4000000 in
theorem rfE_con (ts : List Tb) (hc : ∀ t ∈ ts, t.columns.length ≤ 1048576) (e : Ep) (hb : Bd e) (hg : Rg e) (agg : Bool) : Con Try.prog 16 [.tr (ts.map encT), .ag (encE e), .sc (.bool agg)] (tripEnd (checkE ts e agg)) := by
  refine con_of (by_ref07_Expr ?_)
  generalize hR : RC _ = R
  have HR := Lib.hid hR; clear hR
  have HC := Lib.hid hc; clear hc
  have HB := Lib.hid hb; clear hb
  have HG := Lib.hid hg; clear hg
  by_cases h1 : (ts.length : Int) < 1
  · have hf : checkE ts e agg = .error 3 := if_pos (by omega)
    have HF := Lib.hid hf; clear hf
    simp (maxSteps := 1000000) (disch := omega) only [sh_ref07_Expr, go_sem, wrapI, wrapB, upd_is, upd_not, Nat.reduceAdd, Nat.reduceSub, Nat.reduceMul, Nat.reduceLeDiff, Nat.reduceEqDiff, Int.reduceAdd, Int.reduceSub, Int.reduceMul, Int.reduceNeg, Int.reduceLT, Int.reduceLE, Int.reduceEq, Int.reduceToNat, reduceCtorEq, reduceIte, Nat.zero_add, Nat.add_zero, *]
    intro _
    rw [← HR.out, HF.out]; exact RC_ret rfl rfl
  · by_cases h2 : 2 < (ts.length : Int)
    · have hf : checkE ts e agg = .error 3 := if_pos (by omega)
      have HF := Lib.hid hf; clear hf
      simp (maxSteps := 1000000) (disch := omega) only [sh_ref07_Expr, go_sem, wrapI, wrapB, upd_is, upd_not, Nat.reduceAdd, Nat.reduceSub, Nat.reduceMul, Nat.reduceLeDiff, Nat.reduceEqDiff, Int.reduceAdd, Int.reduceSub, Int.reduceMul, Int.reduceNeg, Int.reduceLT, Int.reduceLE, Int.reduceEq, Int.reduceToNat, reduceCtorEq, reduceIte, Nat.zero_add, Nat.add_zero, *]
      intro _
      rw [← HR.out, HF.out]; exact RC_ret rfl rfl
    · simp (maxSteps := 1000000) (disch := omega) only [sh_ref07_Expr, go_sem, wrapI, wrapB, upd_is, upd_not, Nat.reduceAdd, Nat.reduceSub, Nat.reduceMul, Nat.reduceLeDiff, Nat.reduceEqDiff, Int.reduceAdd, Int.reduceSub, Int.reduceMul, Int.reduceNeg, Int.reduceLT, Int.reduceLE, Int.reduceEq, Int.reduceToNat, reduceCtorEq, reduceIte, Nat.zero_add, Nat.add_zero, *]
      intro _
      refine CALL_con0 (rfCheckExpr_con e HB.out HG.out) (by simp only [brwL_cons, brwL_nil, brw_ag, encE_brw, List.append_nil, Option.map_some]) ?_
      have hf0 : checkE ts e agg = if (walkF 12 e 0).1 ≠ 0 then .error (walkF 12 e 0).1 else exprF ts e agg := if_neg (by omega)
      have hf := Lib.hid hf0; clear hf0
      have hg := Lib.hid (walkF_gd 12 e 0)
      generalize walkF 12 e 0 = r at *
      by_cases h3 : r.1 = 0
      · have hG := Lib.hid (rfexpr_con ts (by omega) HC.out e (hg.out h3) agg)
        have hF := Lib.hid (hf.out.trans (if_neg (by simp [h3])))
        clear hf hg
        simp (maxSteps := 1000000) (disch := omega) only [go_sem, wrapI, wrapB, upd_is, upd_not, Nat.reduceAdd, Nat.reduceSub, Nat.reduceMul, Nat.reduceLeDiff, Nat.reduceEqDiff, Int.reduceAdd, Int.reduceSub, Int.reduceMul, Int.reduceNeg, Int.reduceLT, Int.reduceLE, Int.reduceEq, Int.reduceToNat, reduceCtorEq, reduceIte, Nat.zero_add, Nat.add_zero, *]
        refine CALL_con0 hG.out (by simp only [brwL_cons, brwL_nil, brw_ag, brw_tr, brw_sc, encE_brw, List.append_nil, Option.map_some]) ?_
        clear hG
        rw [← hF.out, tripEnd_is]
        rw [tripEnd_is] at HR
        simp (maxSteps := 1000000) (disch := omega) only [go_sem, wrapI, wrapB, upd_is, upd_not, Nat.reduceAdd, Nat.reduceSub, Nat.reduceMul, Nat.reduceLeDiff, Nat.reduceEqDiff, Int.reduceAdd, Int.reduceSub, Int.reduceMul, Int.reduceNeg, Int.reduceLT, Int.reduceLE, Int.reduceEq, Int.reduceToNat, reduceCtorEq, reduceIte, Nat.zero_add, Nat.add_zero, *]
        rw [← HR.out]
        exact RC_ret (I := []) (by simp only [brw_tp, brwL_cons, brwL_nil, brw_sc, brw_ag, encE_brw, Option.map_some, List.append_nil]) rfl
      · have hF := Lib.hid (hf.out.trans (if_pos (by simpa using h3)))
        clear hf hg
        simp (maxSteps := 1000000) (disch := omega) only [go_sem, wrapI, wrapB, upd_is, upd_not, Nat.reduceAdd, Nat.reduceSub, Nat.reduceMul, Nat.reduceLeDiff, Nat.reduceEqDiff, Int.reduceAdd, Int.reduceSub, Int.reduceMul, Int.reduceNeg, Int.reduceLT, Int.reduceLE, Int.reduceEq, Int.reduceToNat, reduceCtorEq, reduceIte, Nat.zero_add, Nat.add_zero, *]
        rw [← HR.out, hF.out]
        exact RC_ret rfl rfl
set_option maxHeartbeats 4000000 in
theorem checkExprs_con (ts : List Tb) (e : Ep) (agg : Bool) (hts : ts.length ≤ 1048576) (htb : ∀ t ∈ ts, TBd t) (hb : Bd e) (hg : Rg e) : Con Try.prog 3 [.tr (ts.map encT), .ag (encE e), .sc (.bool agg)] (.ret (.sc (.bool true))) := by
  refine con_of (by_law07_CheckExprs ?_)
  generalize hR : RC _ = R
  have HR := Lib.hid hR; clear hR
  have HT := Lib.hid (tables_con ts hts htb)
  have hC := checkE_con ts (fun t ht => (htb t ht).col) e hb agg
  have hF := rfE_con ts (fun t ht => (htb t ht).col) e hb hg agg
  have HP := Lib.hid (copy_con e hb)
  rw [tripEnd_is] at hC hF
  generalize trip (checkE ts e agg) = r at *
  obtain ⟨x, k, f⟩ := r
  simp only at hC hF
  have HC := Lib.hid hC; clear hC
  have HF := Lib.hid hF; clear hF htb hb hg
  have hs := same_con x x
  rw [(sameF_iff x x).2 rfl] at hs
  have HS := Lib.hid hs; clear hs
  have he := same_con e e
  rw [(sameF_iff e e).2 rfl] at he
  have HE := Lib.hid he; clear he
  simp (maxSteps := 1000000) (disch := omega) only [sh_law07_CheckExprs, go_sem, wrapI, wrapB, upd_is, upd_not, Nat.reduceAdd, Nat.reduceSub, Nat.reduceMul, Nat.reduceLeDiff, Nat.reduceEqDiff, Int.reduceAdd, Int.reduceSub, Int.reduceMul, Int.reduceNeg, Int.reduceLT, Int.reduceLE, Int.reduceEq, Int.reduceToNat, reduceCtorEq, reduceIte, Nat.zero_add, Nat.add_zero, *]
  refine CALL_con0 HP.out (by simp only [brwL_cons, brwL_nil, brw_ag, encE_brw, List.append_nil, Option.map_some]) ?_
  simp (maxSteps := 1000000) (disch := omega) only [go_sem, wrapI, wrapB, upd_is, upd_not, Nat.reduceAdd, Nat.reduceSub, Nat.reduceMul, Nat.reduceLeDiff, Nat.reduceEqDiff, Int.reduceAdd, Int.reduceSub, Int.reduceMul, Int.reduceNeg, Int.reduceLT, Int.reduceLE, Int.reduceEq, Int.reduceToNat, reduceCtorEq, reduceIte, Nat.zero_add, Nat.add_zero, *]
  refine callD_con0 HT.out rfl ?_
  unfold kd_law07_CheckExprs7
  simp (maxSteps := 1000000) (disch := omega) only [go_sem, wrapI, wrapB, upd_is, upd_not, Nat.reduceAdd, Nat.reduceSub, Nat.reduceMul, Nat.reduceLeDiff, Nat.reduceEqDiff, Int.reduceAdd, Int.reduceSub, Int.reduceMul, Int.reduceNeg, Int.reduceLT, Int.reduceLE, Int.reduceEq, Int.reduceToNat, reduceCtorEq, reduceIte, Nat.zero_add, Nat.add_zero, *]
  refine callD_con0 HC.out (by simp only [brwL_cons, brwL_nil, brw_ag, brw_tr, brw_sc, encE_brw, List.append_nil, Option.map_some]) ?_
  unfold kd_law07_CheckExprs6
  simp (maxSteps := 1000000) (disch := omega) only [go_sem, wrapI, wrapB, upd_is, upd_not, Nat.reduceAdd, Nat.reduceSub, Nat.reduceMul, Nat.reduceLeDiff, Nat.reduceEqDiff, Int.reduceAdd, Int.reduceSub, Int.reduceMul, Int.reduceNeg, Int.reduceLT, Int.reduceLE, Int.reduceEq, Int.reduceToNat, reduceCtorEq, reduceIte, Nat.zero_add, Nat.add_zero, *]
  refine ⟨fun x hx => by omega, fun n_ hn_ => ?_⟩
  refine CALL_con0 HF.out (by simp only [brwL_cons, brwL_nil, brw_ag, brw_tr, brw_sc, encE_brw, List.append_nil, Option.map_some]) ?_
  simp (maxSteps := 1000000) (disch := omega) only [go_sem, wrapI, wrapB, upd_is, upd_not, Nat.reduceAdd, Nat.reduceSub, Nat.reduceMul, Nat.reduceLeDiff, Nat.reduceEqDiff, Int.reduceAdd, Int.reduceSub, Int.reduceMul, Int.reduceNeg, Int.reduceLT, Int.reduceLE, Int.reduceEq, Int.reduceToNat, reduceCtorEq, reduceIte, Nat.zero_add, Nat.add_zero, *]
  refine CALL_con0 HS.out (by simp only [brwL_cons, brwL_nil, brw_ag, brw_tr, brw_sc, encE_brw, List.append_nil, Option.map_some]) ?_
  simp (maxSteps := 1000000) (disch := omega) only [decide_true, go_sem, wrapI, wrapB, upd_is, upd_not, Nat.reduceAdd, Nat.reduceSub, Nat.reduceMul, Nat.reduceLeDiff, Nat.reduceEqDiff, Int.reduceAdd, Int.reduceSub, Int.reduceMul, Int.reduceNeg, Int.reduceLT, Int.reduceLE, Int.reduceEq, Int.reduceToNat, reduceCtorEq, reduceIte, Nat.zero_add, Nat.add_zero, *]
  refine CALL_con0 (num_con _) rfl ?_
  simp (maxSteps := 1000000) (disch := omega) only [decide_true, go_sem, wrapI, wrapB, upd_is, upd_not, Nat.reduceAdd, Nat.reduceSub, Nat.reduceMul, Nat.reduceLeDiff, Nat.reduceEqDiff, Int.reduceAdd, Int.reduceSub, Int.reduceMul, Int.reduceNeg, Int.reduceLT, Int.reduceLE, Int.reduceEq, Int.reduceToNat, reduceCtorEq, reduceIte, Nat.zero_add, Nat.add_zero, *]
  refine CALL_con0 HE.out (by simp only [brwL_cons, brwL_nil, brw_ag, brw_tr, brw_sc, encE_brw, List.append_nil, Option.map_some]) ?_
  simp (maxSteps := 1000000) (disch := omega) only [decide_true, go_sem, wrapI, wrapB, upd_is, upd_not, Nat.reduceAdd, Nat.reduceSub, Nat.reduceMul, Nat.reduceLeDiff, Nat.reduceEqDiff, Int.reduceAdd, Int.reduceSub, Int.reduceMul, Int.reduceNeg, Int.reduceLT, Int.reduceLE, Int.reduceEq, Int.reduceToNat, reduceCtorEq, reduceIte, Nat.zero_add, Nat.add_zero, *]
  refine CALL_con0 alive_con rfl ?_
  simp (maxSteps := 1000000) (disch := omega) only [go_sem, wrapI, wrapB, upd_is, upd_not, Nat.reduceAdd, Nat.reduceSub, Nat.reduceMul, Nat.reduceLeDiff, Nat.reduceEqDiff, Int.reduceAdd, Int.reduceSub, Int.reduceMul, Int.reduceNeg, Int.reduceLT, Int.reduceLE, Int.reduceEq, Int.reduceToNat, reduceCtorEq, reduceIte, Nat.zero_add, Nat.add_zero, *]
  rw [← HR.out]; exact RC_ret rfl rfl
end Go.Proofs.Ytlhnncmflnjinaa
