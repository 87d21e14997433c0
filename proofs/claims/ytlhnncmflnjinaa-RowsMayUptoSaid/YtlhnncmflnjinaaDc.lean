/- check.Expr. -/
import Derived.Test.YtlhnncmflnjinaaDb
import Derived.Test.YtlhnncmflnjinaaCx
set_option linter.unusedSimpArgs false
set_option linter.unusedVariables false
set_option maxRecDepth 100000
namespace Go.Proofs.Ytlhnncmflnjinaa
open Go Go.RowKit Am

theorem walkF_gd : ∀ (k : Nat) (e : Ep) (c : Nat), (walkF k e c).1 = 0 → Gd e
  | 0, e, c, h => by simp only [walkF] at h; exact absurd h (by decide)
  | k + 1, e, c, h => by
    simp only [walkF] at h
    split at h
    · simp at h
    · split at h
      · simp at h
      · rename_i hp
        have : ∀ (l : List Ep) (c : Nat), (goOver (walkF k) l c).1 = 0 → ∀ a ∈ l, Gd a := by
          intro l
          induction l with
          | nil => intro c h a ha; cases ha
          | cons b l ih =>
            intro c h a ha
            simp only [goOver] at h
            split at h
            · rename_i h0
              rcases List.mem_cons.1 ha with rfl | ha
              · exact walkF_gd k _ c h0
              · exact ih _ h a ha
            · rename_i h0; exact absurd h h0
        exact .mk e (by simpa using hp) (this _ _ h)
theorem encE_drop (e : Ep) : (encE e).drop 7 = [] := by rw [encE_eq]; rfl
attribute [go_sem] encE_drop
def checkE (ts : List Tb) (e : Ep) (agg : Bool) : Except Int (Ep × Int) :=
  if ts.length < 1 ∨ 2 < ts.length then .error 3 else if (walkF 12 e 0).1 ≠ 0 then .error (walkF 12 e 0).1 else exprF ts e agg
def tripEnd : Except Int (Ep × Int) → AEnd
  | .ok p => .ret (.tp [.ag (encE p.1), .sc (.int .i64 p.2), .sc (.int .i64 0)])
  | .error x => .ret (.tp [.ag (encE .zero), .sc (.int .i64 0), .sc (.int .i64 x)])
theorem told_err (n : Int) (i id : Nat) (v : AV) : ConW Try.prog 51 [.sc (eIf n), .rf i 1 0 0] [(i, blk1 v)] id (.ret (.sc (.bool true))) [(i, some (blk1 (.sc (.int .i64 n))))] := by
  refine conW_less' (by kernel_rfl) (fun σ n' R hp hf hR => by_check_told ?_)
  have hi := hp _ (List.mem_singleton.2 rfl)
  simp only [blk1] at hi
  clear hp
  have HR := Lib.hid hR; clear hR
  simp (contextual := true) (maxSteps := 1000000) (disch := omega) only [sh_check_told, go_sem, wrapI, wrapB, upd_is, upd_not, Nat.reduceAdd, Nat.reduceSub, Nat.reduceMul, Nat.reduceLeDiff, Nat.reduceEqDiff, Int.reduceAdd, Int.reduceSub, Int.reduceMul, Int.reduceNeg, Int.reduceLT, Int.reduceLE, Int.reduceEq, Int.reduceToNat, reduceCtorEq, reduceIte, Nat.zero_add, Nat.add_zero, *]
  exact HR.out _ _ _ rfl (fun j x h => h)
theorem told_nil (i id : Nat) : ConW Try.prog 51 [.sc .nilIface, .rf i 1 0 0] [] id (.ret (.sc (.bool false))) [] := by
  refine conW_less' (by kernel_rfl) (fun σ n' R hp hf hR => by_check_told ?_)
  have HR := Lib.hid hR; clear hR
  simp (contextual := true) (maxSteps := 1000000) (disch := omega) only [sh_check_told, go_sem, wrapI, wrapB, upd_is, upd_not, Nat.reduceAdd, Nat.reduceSub, Nat.reduceMul, Nat.reduceLeDiff, Nat.reduceEqDiff, Int.reduceAdd, Int.reduceSub, Int.reduceMul, Int.reduceNeg, Int.reduceLT, Int.reduceLE, Int.reduceEq, Int.reduceToNat, reduceCtorEq, reduceIte, Nat.zero_add, Nat.add_zero, *]
  exact HR.out _ _ _ rfl (fun j x h => h)
abbrev zeroRow : List AV := [.sc (.int .i64 0), .sc (.int .i64 0), .sc (.int .i64 0), .s [], .s [], .s [], .em]
theorem catch_err (m : Int) (v1 : List AV) (v2 v3 : AV) (hv : v1.length = 7) (σ : Hp) (n : Nat) (h1 : σ 16 = some (.c ⟨7, [v1], true, false⟩)) (h2 : σ 32 = some (blk1 v2)) (h3 : σ 48 = some (blk1 v3)) :
    ConR Try.prog 50 [.rf 48 1 0 0, .rf 16 7 0 0, .rf 32 1 0 0] σ n (some (eIf m)) (fun σ' _ => σ' 16 = some (.c ⟨7, [zeroRow], true, false⟩) ∧ σ' 32 = some (blk1 (.sc (.int .i64 0))) ∧ σ' 48 = some (blk1 (.sc (.int .i64 m)))) := by
  refine by_check_Expr_c1 ?_
  simp only [sh_check_Expr_c1, recV]
  refine CALL_conW (told_err m 48 n v3) (fun p hp => by simp only [List.mem_singleton] at hp; subst hp; exact h3) (fun n' hn' => ?_)
  simp only [blk1] at h2
  have hd : v1.drop 7 = [] := List.drop_eq_nil_of_le (by omega)
  simp (maxSteps := 1000000) (disch := omega) only [go_sem, wrapI, wrapB, upd_is, upd_not, Nat.reduceAdd, Nat.reduceSub, Nat.reduceMul, Nat.reduceLeDiff, Nat.reduceEqDiff, Int.reduceAdd, Int.reduceSub, Int.reduceMul, Int.reduceNeg, Int.reduceLT, Int.reduceLE, Int.reduceEq, Int.reduceToNat, reduceCtorEq, reduceIte, Nat.zero_add, Nat.add_zero, *]
theorem catch_nil (v1 : Ob) (v2 v3 : Ob) (σ : Hp) (n : Nat) (h1 : σ 16 = some v1) (h2 : σ 32 = some v2) (h3 : σ 48 = some v3) :
    ConR Try.prog 50 [.rf 48 1 0 0, .rf 16 7 0 0, .rf 32 1 0 0] σ n none (fun σ' _ => σ' 16 = some v1 ∧ σ' 32 = some v2 ∧ σ' 48 = some v3) := by
  refine by_check_Expr_c1 ?_
  simp only [sh_check_Expr_c1, recV]
  refine CALL_conW (told_nil 48 n) (fun p hp => by cases hp) (fun n' hn' => ?_)
  simp (maxSteps := 1000000) (disch := omega) only [go_sem, wrapI, wrapB, upd_is, upd_not, Nat.reduceAdd, Nat.reduceSub, Nat.reduceMul, Nat.reduceLeDiff, Nat.reduceEqDiff, Int.reduceAdd, Int.reduceSub, Int.reduceMul, Int.reduceNeg, Int.reduceLT, Int.reduceLE, Int.reduceEq, Int.reduceToNat, reduceCtorEq, reduceIte, Nat.zero_add, Nat.add_zero, *]
set_option maxHeartbeats 4000000 in
theorem checkE_con (ts : List Tb) (hc : ∀ t ∈ ts, t.columns.length ≤ 1048576) (e : Ep) (hb : Bd e) (agg : Bool) : Con Try.prog 14 [.tr (ts.map encT), .ag (encE e), .sc (.bool agg)] (tripEnd (checkE ts e agg)) := by
  refine con_of (by_check_Expr ?_)
  generalize hR : RC _ = R
  have HR := Lib.hid hR; clear hR
  have HC := Lib.hid hc; clear hc
  have HB := Lib.hid hb; clear hb
  by_cases h1 : (ts.length : Int) < 1
  · simp (maxSteps := 1000000) (disch := omega) only [sh_check_Expr, go_sem, wrapI, wrapB, upd_is, upd_not, Nat.reduceAdd, Nat.reduceSub, Nat.reduceMul, Nat.reduceLeDiff, Nat.reduceEqDiff, Int.reduceAdd, Int.reduceSub, Int.reduceMul, Int.reduceNeg, Int.reduceLT, Int.reduceLE, Int.reduceEq, Int.reduceToNat, reduceCtorEq, reduceIte, Nat.zero_add, Nat.add_zero, *]
    intro _
    have hf : checkE ts e agg = .error 3 := if_pos (by omega)
    rw [← HR.out, hf]; exact RC_ret rfl rfl
  · by_cases h2 : 2 < (ts.length : Int)
    · simp (maxSteps := 1000000) (disch := omega) only [sh_check_Expr, go_sem, wrapI, wrapB, upd_is, upd_not, Nat.reduceAdd, Nat.reduceSub, Nat.reduceMul, Nat.reduceLeDiff, Nat.reduceEqDiff, Int.reduceAdd, Int.reduceSub, Int.reduceMul, Int.reduceNeg, Int.reduceLT, Int.reduceLE, Int.reduceEq, Int.reduceToNat, reduceCtorEq, reduceIte, Nat.zero_add, Nat.add_zero, *]
      intro _
      have hf : checkE ts e agg = .error 3 := if_pos (by omega)
      rw [← HR.out, hf]; exact RC_ret rfl rfl
    · simp (maxSteps := 1000000) (disch := omega) only [sh_check_Expr, go_sem, wrapI, wrapB, upd_is, upd_not, Nat.reduceAdd, Nat.reduceSub, Nat.reduceMul, Nat.reduceLeDiff, Nat.reduceEqDiff, Int.reduceAdd, Int.reduceSub, Int.reduceMul, Int.reduceNeg, Int.reduceLT, Int.reduceLE, Int.reduceEq, Int.reduceToNat, reduceCtorEq, reduceIte, Nat.zero_add, Nat.add_zero, *]
      intro _
      refine CALL_con0 (checkExpr_con e HB.out) (by simp only [brwL_cons, brwL_nil, brw_ag, encE_brw, List.append_nil, Option.map_some]) ?_
      have hf0 : checkE ts e agg = if (walkF 12 e 0).1 ≠ 0 then .error (walkF 12 e 0).1 else exprF ts e agg := if_neg (by omega)
      have hf := Lib.hid hf0; clear hf0
      have hg := Lib.hid (walkF_gd 12 e 0)
      generalize walkF 12 e 0 = r at *
      by_cases h3 : r.1 = 0
      · have hG := Lib.hid (expr_con ts (by omega) HC.out e (hg.out h3) agg)
        have hF := Lib.hid (hf.out.trans (if_neg (by simp [h3])))
        clear hf hg
        simp (maxSteps := 1000000) (disch := omega) only [go_sem, wrapI, wrapB, upd_is, upd_not, Nat.reduceAdd, Nat.reduceSub, Nat.reduceMul, Nat.reduceLeDiff, Nat.reduceEqDiff, Int.reduceAdd, Int.reduceSub, Int.reduceMul, Int.reduceNeg, Int.reduceLT, Int.reduceLE, Int.reduceEq, Int.reduceToNat, reduceCtorEq, reduceIte, Nat.zero_add, Nat.add_zero, *]
        refine CALL_con0 hG.out (by simp only [brwL_cons, brwL_nil, brw_ag, brw_tr, brw_sc, encE_brw, List.append_nil, Option.map_some]) ?_
        clear hG
        cases hq : exprF ts e agg with
        | error x =>
          have hF := Lib.hid (hF.out.trans hq)
          clear hq
          simp only [exprEnd]
          simp (maxSteps := 1000000) (disch := omega) only [go_sem, wrapI, wrapB, upd_is, upd_not, Nat.reduceAdd, Nat.reduceSub, Nat.reduceMul, Nat.reduceLeDiff, Nat.reduceEqDiff, Int.reduceAdd, Int.reduceSub, Int.reduceMul, Int.reduceNeg, Int.reduceLT, Int.reduceLE, Int.reduceEq, Int.reduceToNat, reduceCtorEq, reduceIte, Nat.zero_add, Nat.add_zero, *]
          refine DEF_con _ rfl (catch_err x zeroRow (.sc (.int .i64 0)) (.sc (.int .i64 0)) rfl _ _ ?_ ?_ ?_) (fun σ' n2 h2 hn2 => ?_)
          · rfl
          · rfl
          · rfl
          · obtain ⟨ha, hb, hc⟩ := h2
            simp only [blk1] at hb hc
            simp (maxSteps := 1000000) (disch := omega) only [go_sem, wrapI, wrapB, upd_is, upd_not, Nat.reduceAdd, Nat.reduceSub, Nat.reduceMul, Nat.reduceLeDiff, Nat.reduceEqDiff, Int.reduceAdd, Int.reduceSub, Int.reduceMul, Int.reduceNeg, Int.reduceLT, Int.reduceLE, Int.reduceEq, Int.reduceToNat, reduceCtorEq, reduceIte, Nat.zero_add, Nat.add_zero, *]
            rw [← HR.out, hF.out]
            exact RC_ret rfl rfl
        | ok p =>
          have hF := Lib.hid (hF.out.trans hq)
          clear hq
          simp only [exprEnd]
          simp (maxSteps := 1000000) (disch := omega) only [go_sem, wrapI, wrapB, upd_is, upd_not, Nat.reduceAdd, Nat.reduceSub, Nat.reduceMul, Nat.reduceLeDiff, Nat.reduceEqDiff, Int.reduceAdd, Int.reduceSub, Int.reduceMul, Int.reduceNeg, Int.reduceLT, Int.reduceLE, Int.reduceEq, Int.reduceToNat, reduceCtorEq, reduceIte, Nat.zero_add, Nat.add_zero, *]
          refine ⟨fun x hx => by omega, fun n_ hn_ => ?_⟩
          refine DEF_con _ rfl (catch_nil _ _ _ _ _ rfl rfl rfl) (fun σ' n2 h2 hn2 => ?_)
          obtain ⟨ha, hb, hc⟩ := h2
          simp (maxSteps := 1000000) (disch := omega) only [go_sem, wrapI, wrapB, upd_is, upd_not, Nat.reduceAdd, Nat.reduceSub, Nat.reduceMul, Nat.reduceLeDiff, Nat.reduceEqDiff, Int.reduceAdd, Int.reduceSub, Int.reduceMul, Int.reduceNeg, Int.reduceLT, Int.reduceLE, Int.reduceEq, Int.reduceToNat, reduceCtorEq, reduceIte, Nat.zero_add, Nat.add_zero, *]
          rw [← HR.out, hF.out]
          exact RC_ret (I := []) (by simp only [brw_tp, brwL_cons, brwL_nil, brw_sc, brw_ag, encE_brw, Option.map_some, List.append_nil]) rfl
      · have hF := Lib.hid (hf.out.trans (if_pos (by simpa using h3)))
        clear hf hg
        simp (maxSteps := 1000000) (disch := omega) only [go_sem, wrapI, wrapB, upd_is, upd_not, Nat.reduceAdd, Nat.reduceSub, Nat.reduceMul, Nat.reduceLeDiff, Nat.reduceEqDiff, Int.reduceAdd, Int.reduceSub, Int.reduceMul, Int.reduceNeg, Int.reduceLT, Int.reduceLE, Int.reduceEq, Int.reduceToNat, reduceCtorEq, reduceIte, Nat.zero_add, Nat.add_zero, *]
        rw [← HR.out, hF.out]
        exact RC_ret rfl rfl
end Go.Proofs.Ytlhnncmflnjinaa
