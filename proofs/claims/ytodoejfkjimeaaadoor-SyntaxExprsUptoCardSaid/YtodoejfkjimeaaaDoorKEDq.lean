/- Packed by a program of this repo: Dq. -/
import Derived.Test.YtodoejfkjimeaaaDoorKEDo
import Derived.Test.YtodoejfkjimeaaaDoorKEDj
import Derived.Test.YtodoejfkjimeaaaDoorKEDh
import Derived.Test.YtodoejfkjimeaaaDoorKEDe
set_option linter.unusedSimpArgs false
set_option linter.unusedVariables false
set_option maxRecDepth 100000
namespace Go.Proofs.YtodoejfkjimeaaaDoor
open Go Go.RowKit Am

end Go.Proofs.YtodoejfkjimeaaaDoor
set_option maxRecDepth 100000
namespace Go.Proofs.YtodoejfkjimeaaaDoor
open Go Go.RowKit Am

theorem encE_all (l : List Ep) : ((l.map encE).all fun r => r.length == 7) = true := all_enc encE 7 encE_len l
theorem encE_leafs (l : List Ep) : ((l.map encE).all fun r => r.all leafok) = true := by simp [encE_leaf]
attribute [go_sem] encE_all encE_leafs
set_option maxHeartbeats 4000000 in
theorem copyL_con (l : List Ep) (hl : l.length ≤ 1048576) (h : ∀ a ∈ l, Con Tryd.prog 12 [.ag (encE a)] (.ret (.ag (encE a)))) : Con Tryd.prog 28 [.tr (l.map encE)] (.ret (.tr (l.map encE))) := by
  refine con_of (by_plain_CopyExprs ?_)
  generalize hR : RC _ = R
  have HR := Lib.hid hR; clear hR
  have HB := Lib.hid h; clear h
  rw [sh_plain_CopyExprs]
  refine LOOP_listM l (fun i s σ' n' => ∃ a ov, s = [a, ov, .sc (.int .i64 i)] ∧ ((i = 0 ∧ ov = .em) ∨ ∃ i1, i1 < n' ∧ ov = .ow i1 7 0 i ∧ σ' i1 = some (.c ⟨7, (l.take i).map encE, true, true⟩))) (.refl ⟨_, _, rfl, .inl ⟨rfl, rfl⟩⟩) ?_ ?_
  · rintro i x K s' σ' n2 hx hi1 hi' hn1 ⟨a, ov, rfl, hov⟩ hK
    have HK := Lib.hid hK; clear hK
    have ht : (l.take (i + 1)).map encE = (l.take i).map encE ++ [encE x] := by rw [List.take_add_one, hx, List.map_append]; rfl
    have HT := Lib.hid ht; clear ht
    have HC := HB.out x (List.mem_of_getElem? hx)
    rcases hov with ⟨rfl, rfl⟩ | ⟨i1, hl1, rfl, hs1⟩
    · simp (maxSteps := 1000000) (disch := omega) only [lb_plain_CopyExprs2, go_sem, wrapI, wrapB, upd_is, upd_not, Nat.reduceAdd, Nat.reduceSub, Nat.reduceMul, Nat.reduceLeDiff, Nat.reduceEqDiff, Int.reduceAdd, Int.reduceSub, Int.reduceMul, Int.reduceNeg, Int.reduceLT, Int.reduceLE, Int.reduceEq, Int.reduceToNat, reduceCtorEq, reduceIte, Nat.zero_add, Nat.add_zero, *]
      intro _
      refine CALL_con0 HC (by simp only [brwL_cons, brwL_nil, brw_ag, encE_brw, List.append_nil, Option.map_some]) ?_
      simp (maxSteps := 1000000) (disch := omega) only [go_sem, wrapI, wrapB, upd_is, upd_not, Nat.reduceAdd, Nat.reduceSub, Nat.reduceMul, Nat.reduceLeDiff, Nat.reduceEqDiff, Int.reduceAdd, Int.reduceSub, Int.reduceMul, Int.reduceNeg, Int.reduceLT, Int.reduceLE, Int.reduceEq, Int.reduceToNat, reduceCtorEq, reduceIte, Nat.zero_add, Nat.add_zero, *]
      refine HK.out _ _ _ (.refl ⟨_, _, rfl, .inr ⟨n2 + 16, by omega, rfl, ?_⟩⟩)
      rw [upd_is rfl, HT.out]; rfl
    · have hl : (List.take i l).length = i := by rw [List.length_take]; omega
      have c1 : (i + 1) * 96 ≤ 140737488355328 := by omega
      have c2 : ¬ i1 = n2 + 16 := by omega
      simp (maxSteps := 1000000) (disch := omega) only [lb_plain_CopyExprs2, go_sem, wrapI, wrapB, upd_is, upd_not, Nat.reduceAdd, Nat.reduceSub, Nat.reduceMul, Nat.reduceLeDiff, Nat.reduceEqDiff, Int.reduceAdd, Int.reduceSub, Int.reduceMul, Int.reduceNeg, Int.reduceLT, Int.reduceLE, Int.reduceEq, Int.reduceToNat, reduceCtorEq, reduceIte, Nat.zero_add, Nat.add_zero, *]
      intro _
      refine CALL_con0 HC (by simp only [brwL_cons, brwL_nil, brw_ag, encE_brw, List.append_nil, Option.map_some]) ?_
      simp (maxSteps := 1000000) (disch := omega) only [go_sem, wrapI, wrapB, upd_is, upd_not, Nat.reduceAdd, Nat.reduceSub, Nat.reduceMul, Nat.reduceLeDiff, Nat.reduceEqDiff, Int.reduceAdd, Int.reduceSub, Int.reduceMul, Int.reduceNeg, Int.reduceLT, Int.reduceLE, Int.reduceEq, Int.reduceToNat, reduceCtorEq, reduceIte, Nat.zero_add, Nat.add_zero, *]
      refine HK.out _ _ _ (.refl ⟨_, _, rfl, .inr ⟨n2 + 16, by omega, rfl, ?_⟩⟩)
      rw [upd_is rfl, HT.out]
  · rintro K s' σ' n2 hn1 ⟨a, ov, rfl, hov⟩
    simp (maxSteps := 1000000) (disch := omega) only [lb_plain_CopyExprs2, Int.lt_irrefl, go_sem, wrapI, wrapB, upd_is, upd_not, Nat.reduceAdd, Nat.reduceSub, Nat.reduceMul, Nat.reduceLeDiff, Nat.reduceEqDiff, Int.reduceAdd, Int.reduceSub, Int.reduceMul, Int.reduceNeg, Int.reduceLT, Int.reduceLE, Int.reduceEq, Int.reduceToNat, reduceCtorEq, reduceIte, Nat.zero_add, Nat.add_zero, *]
    intro _
    rw [← HR.out]
    rcases hov with ⟨h, rfl⟩ | ⟨i1, h1, rfl, h⟩
    · have h3 := List.eq_nil_of_length_eq_zero h
      subst h3; exact RC_ret rfl rfl
    · rw [List.take_length] at h
      exact RC_ret (c := .tr (l.map encE)) (I := [i1]) (brw_all h (List.length_map _) (by omega)) rfl
theorem copy_con (e : Ep) (hb : Bd e) : Con Tryd.prog 12 [.ag (encE e)] (.ret (.ag (encE e))) := by
  induction hb with
  | mk op kind n text table name args h1 h2 h3 h4 h ih =>
    refine con_of (by_plain_CopyExpr ?_)
    have HL := Lib.hid (copyL_con args h4 ih)
    clear ih h h1 h2 h3 h4
    simp (maxSteps := 1000000) (disch := omega) only [sh_plain_CopyExpr, encE_eq, Ep.op, Ep.kind, Ep.n, Ep.text, Ep.table, Ep.name, Ep.args, go_sem, wrapI, wrapB, upd_is, upd_not, Nat.reduceAdd, Nat.reduceSub, Nat.reduceMul, Nat.reduceLeDiff, Nat.reduceEqDiff, Int.reduceAdd, Int.reduceSub, Int.reduceMul, Int.reduceNeg, Int.reduceLT, Int.reduceLE, Int.reduceEq, Int.reduceToNat, reduceCtorEq, reduceIte, Nat.zero_add, Nat.add_zero, *]
    refine CALL_con0 HL.out rfl ?_
    simp (maxSteps := 1000000) (disch := omega) only [go_sem, wrapI, wrapB, upd_is, upd_not, Nat.reduceAdd, Nat.reduceSub, Nat.reduceMul, Nat.reduceLeDiff, Nat.reduceEqDiff, Int.reduceAdd, Int.reduceSub, Int.reduceMul, Int.reduceNeg, Int.reduceLT, Int.reduceLE, Int.reduceEq, Int.reduceToNat, reduceCtorEq, reduceIte, Nat.zero_add, Nat.add_zero, *]
    exact RC_ret rfl rfl
end Go.Proofs.YtodoejfkjimeaaaDoor
set_option maxRecDepth 100000
namespace Go.Proofs.YtodoejfkjimeaaaDoor
open Go Go.RowKit Am

end Go.Proofs.YtodoejfkjimeaaaDoor
