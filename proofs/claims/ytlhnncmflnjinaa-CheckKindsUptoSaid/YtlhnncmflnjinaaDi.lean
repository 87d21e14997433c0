/- CheckKinds tells true. -/
import Derived.Test.YtlhnncmflnjinaaDh
set_option linter.unusedSimpArgs false
set_option linter.unusedVariables false
set_option maxRecDepth 100000
namespace Go.Proofs.Ytlhnncmflnjinaa
open Go Go.RowKit Am

abbrev told3 (x : Ep) (k e : Int) : AEnd := .ret (.tp [.ag (encE x), .sc (.int .i64 k), .sc (.int .i64 e)])
set_option maxHeartbeats 4000000 in
theorem checkKinds_aux (ts : List Tb) (e x1 x2 x3 : Ep) (k1 k2 k3 e1 e2 e3 : Int) (HT : Hid (Con Try.prog 15 [.tr (ts.map encT)] (.ret (.tr (ts.map encT)))))
    (HC : Hid (Con Try.prog 14 [.tr (ts.map encT), .ag (encE e), .sc (.bool false)] (told3 x1 k1 e1)))
    (H3 : Hid (Con Try.prog 14 [.tr (ts.map encT), .ag [.sc (.int .i64 3), .sc (.int .i64 0), .sc (.int .i64 0), .s [], .s [], .s [], .tr [encE e]], .sc (.bool false)] (told3 x2 k2 e2)))
    (H2 : Hid (Con Try.prog 14 [.tr (ts.map encT), .ag [.sc (.int .i64 2), .sc (.int .i64 0), .sc (.int .i64 0), .s [], .s [], .s [], .tr [encE e]], .sc (.bool false)] (told3 x3 k3 e3)))
    (HL : Hid (kindsAre (x1, k1, e1) (x2, k2, e2) (x3, k3, e3))) : Con Try.prog 5 [.tr (ts.map encT), .ag (encE e)] (.ret (.sc (.bool true))) := by
  refine con_of (by_law07_CheckKinds ?_)
  generalize hR : RC _ = R
  have HR := Lib.hid hR; clear hR
  simp (maxSteps := 1000000) (disch := omega) only [sh_law07_CheckKinds, go_sem, wrapI, wrapB, upd_is, upd_not, Nat.reduceAdd, Nat.reduceSub, Nat.reduceMul, Nat.reduceLeDiff, Nat.reduceEqDiff, Int.reduceAdd, Int.reduceSub, Int.reduceMul, Int.reduceNeg, Int.reduceLT, Int.reduceLE, Int.reduceEq, Int.reduceToNat, reduceCtorEq, reduceIte, Nat.zero_add, Nat.add_zero, *]
  refine CALL_con0 alive_con rfl ?_
  simp (maxSteps := 1000000) (disch := omega) only [go_sem, wrapI, wrapB, upd_is, upd_not, Nat.reduceAdd, Nat.reduceSub, Nat.reduceMul, Nat.reduceLeDiff, Nat.reduceEqDiff, Int.reduceAdd, Int.reduceSub, Int.reduceMul, Int.reduceNeg, Int.reduceLT, Int.reduceLE, Int.reduceEq, Int.reduceToNat, reduceCtorEq, reduceIte, Nat.zero_add, Nat.add_zero, *]
  refine callD_con0 HT.out rfl ?_
  simp (maxSteps := 1000000) (disch := omega) only [go_sem, wrapI, wrapB, upd_is, upd_not, Nat.reduceAdd, Nat.reduceSub, Nat.reduceMul, Nat.reduceLeDiff, Nat.reduceEqDiff, Int.reduceAdd, Int.reduceSub, Int.reduceMul, Int.reduceNeg, Int.reduceLT, Int.reduceLE, Int.reduceEq, Int.reduceToNat, reduceCtorEq, reduceIte, Nat.zero_add, Nat.add_zero, *]
  refine callD_con0 HC.out (by simp only [brwL_cons, brwL_nil, brw_ag, brw_tr, brw_sc, encE_brw, List.append_nil, Option.map_some]) ?_
  simp (maxSteps := 1000000) (disch := omega) only [go_sem, wrapI, wrapB, upd_is, upd_not, Nat.reduceAdd, Nat.reduceSub, Nat.reduceMul, Nat.reduceLeDiff, Nat.reduceEqDiff, Int.reduceAdd, Int.reduceSub, Int.reduceMul, Int.reduceNeg, Int.reduceLT, Int.reduceLE, Int.reduceEq, Int.reduceToNat, reduceCtorEq, reduceIte, Nat.zero_add, Nat.add_zero, *]
  refine ⟨fun x hx => by omega, fun n1 hn1 => ?_⟩
  refine callD_con0 HT.out rfl ?_
  simp (maxSteps := 1000000) (disch := omega) only [go_sem, wrapI, wrapB, upd_is, upd_not, Nat.reduceAdd, Nat.reduceSub, Nat.reduceMul, Nat.reduceLeDiff, Nat.reduceEqDiff, Int.reduceAdd, Int.reduceSub, Int.reduceMul, Int.reduceNeg, Int.reduceLT, Int.reduceLE, Int.reduceEq, Int.reduceToNat, reduceCtorEq, reduceIte, Nat.zero_add, Nat.add_zero, *]
  refine callD_con (I := [n1 + 48]) H3.out ?_ ?_
  · simp (maxSteps := 1000000) (disch := omega) only [go_sem, wrapI, wrapB, upd_is, upd_not, Nat.reduceAdd, Nat.reduceSub, Nat.reduceMul, Nat.reduceLeDiff, Nat.reduceEqDiff, Int.reduceAdd, Int.reduceSub, Int.reduceMul, Int.reduceNeg, Int.reduceLT, Int.reduceLE, Int.reduceEq, Int.reduceToNat, reduceCtorEq, reduceIte, Nat.zero_add, Nat.add_zero, *]
  simp (maxSteps := 1000000) (disch := omega) only [wrOf, scal, Am.frz, Ob.frz, go_sem, wrapI, wrapB, upd_is, upd_not, Nat.reduceAdd, Nat.reduceSub, Nat.reduceMul, Nat.reduceLeDiff, Nat.reduceEqDiff, Int.reduceAdd, Int.reduceSub, Int.reduceMul, Int.reduceNeg, Int.reduceLT, Int.reduceLE, Int.reduceEq, Int.reduceToNat, reduceCtorEq, reduceIte, Nat.zero_add, Nat.add_zero, *]
  refine ⟨fun x hx => by omega, ⟨fun x hx => by omega, fun x hx => by omega⟩, ⟨fun x hx => by omega, fun x hx => by omega⟩, fun n2 hn2 => ?_⟩
  refine callD_con0 HT.out rfl ?_
  simp (maxSteps := 1000000) (disch := omega) only [go_sem, wrapI, wrapB, upd_is, upd_not, Nat.reduceAdd, Nat.reduceSub, Nat.reduceMul, Nat.reduceLeDiff, Nat.reduceEqDiff, Int.reduceAdd, Int.reduceSub, Int.reduceMul, Int.reduceNeg, Int.reduceLT, Int.reduceLE, Int.reduceEq, Int.reduceToNat, reduceCtorEq, reduceIte, Nat.zero_add, Nat.add_zero, *]
  refine callD_con (I := [n2 + 48]) H2.out ?_ ?_
  · simp (maxSteps := 1000000) (disch := omega) only [go_sem, wrapI, wrapB, upd_is, upd_not, Nat.reduceAdd, Nat.reduceSub, Nat.reduceMul, Nat.reduceLeDiff, Nat.reduceEqDiff, Int.reduceAdd, Int.reduceSub, Int.reduceMul, Int.reduceNeg, Int.reduceLT, Int.reduceLE, Int.reduceEq, Int.reduceToNat, reduceCtorEq, reduceIte, Nat.zero_add, Nat.add_zero, *]
  simp (maxSteps := 1000000) (disch := omega) only [wrOf, scal, Am.frz, Ob.frz, go_sem, wrapI, wrapB, upd_is, upd_not, Nat.reduceAdd, Nat.reduceSub, Nat.reduceMul, Nat.reduceLeDiff, Nat.reduceEqDiff, Int.reduceAdd, Int.reduceSub, Int.reduceMul, Int.reduceNeg, Int.reduceLT, Int.reduceLE, Int.reduceEq, Int.reduceToNat, reduceCtorEq, reduceIte, Nat.zero_add, Nat.add_zero, *]
  refine ⟨fun x hx => by omega, ⟨fun x hx => by omega, fun x hx => by omega⟩, ⟨fun x hx => by omega, fun x hx => by omega⟩, fun n3 hn3 => ?_⟩
  refine CALL_con0 (num_con _) rfl ?_
  simp only [kindsAre] at HL
  clear HT HC H3 H2
  rcases HL.out with ⟨h1, h2, h3⟩ | ⟨rfl, rfl, rfl⟩ | ⟨rfl, rfl, rfl⟩ | ⟨rfl, rfl, rfl, rfl, rfl, rfl, h1, h2⟩ | ⟨rfl, rfl, rfl, rfl, rfl, h1⟩ | ⟨rfl, rfl, rfl, rfl, rfl, h1⟩ | ⟨rfl, rfl, rfl, h1, h2, h3⟩
  all_goals
    clear HL
    repeat' first
      | (rw [← HR.out]; exact RC_ret rfl rfl)
      | refine CALL_con0 (num_con _) rfl ?_
      | simp (maxSteps := 1000000) (disch := omega) only [encE_eq, go_sem, wrapI, wrapB, upd_is, upd_not, Nat.reduceAdd, Nat.reduceSub, Nat.reduceMul, Nat.reduceLeDiff, Nat.reduceEqDiff, Int.reduceAdd, Int.reduceSub, Int.reduceMul, Int.reduceNeg, Int.reduceLT, Int.reduceLE, Int.reduceEq, Int.reduceToNat, reduceCtorEq, reduceIte, Nat.zero_add, Nat.add_zero, *]
theorem checkKinds_con (ts : List Tb) (e : Ep) (hts : ts.length ≤ 1048576) (htb : ∀ t ∈ ts, TBd t) (hb : Bd e) : Con Try.prog 5 [.tr (ts.map encT), .ag (encE e)] (.ret (.sc (.bool true))) := by
  have hbu : ∀ op, Bd (under op e) := fun op => .mk _ _ _ _ _ _ _ (by simp) (by simp) (by simp) (by simp) (fun a ha => by rw [List.mem_singleton] at ha; subst ha; exact hb)
  have hC := checkE_con ts (fun t ht => (htb t ht).col) e hb false
  have h3 := checkE_con ts (fun t ht => (htb t ht).col) (under 3 e) (hbu 3) false
  have h2 := checkE_con ts (fun t ht => (htb t ht).col) (under 2 e) (hbu 2) false
  rw [tripEnd_is] at hC h3 h2
  rw [encE_eq (under 3 e)] at h3
  rw [encE_eq (under 2 e)] at h2
  exact checkKinds_aux ts e _ _ _ _ _ _ _ _ _ (Lib.hid (tables_con ts hts htb)) (Lib.hid hC) (Lib.hid h3) (Lib.hid h2) (Lib.hid (kinds_law ts e))
end Go.Proofs.Ytlhnncmflnjinaa
