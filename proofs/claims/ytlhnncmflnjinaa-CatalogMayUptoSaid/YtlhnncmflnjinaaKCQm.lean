/- Packed by a program of this repo: Qm. -/
import Derived.Test.YtlhnncmflnjinaaKCQk
set_option linter.unusedSimpArgs false
set_option linter.unusedVariables false
set_option maxRecDepth 100000
namespace Go.Proofs.Ytlhnncmflnjinaa
open Go Go.RowKit Am
attribute [-go_sem] guardP_if guardK_if guardD_if COND_bool
attribute [local go_sem low] guardP_if guardK_if guardD_if COND_bool

theorem num6_con (n : Int) : Con Try.prog 39 [.sc (.int .i64 n)] (.ret (.sc (.int .i64 n))) := by
  refine con_of (by_law06_num ?_)
  exact RC_ret rfl rfl
set_option maxHeartbeats 4000000 in
theorem all_con (ts : List Tb) (hl : ts.length ≤ 1048576) (hb : ∀ t ∈ ts, TBd t) : Con Try.prog 22 [.ag [.tr (ts.map encT)]] (.ret (.ag [.tr (ts.map encT)])) := by
  refine con_of (by_law06_All ?_)
  generalize hR : RC _ = R
  have HR := Lib.hid hR; clear hR
  have HO := Lib.hid (fun t (h : t ∈ ts) => of_con t (hb t h)); clear hb
  simp (maxSteps := 1000000) (disch := omega) only [sh_law06_All, go_sem, wrapI, wrapB, upd_is, upd_not, Nat.reduceAdd, Nat.reduceSub, Nat.reduceMul, Nat.reduceLeDiff, Nat.reduceEqDiff, Int.reduceAdd, Int.reduceSub, Int.reduceMul, Int.reduceNeg, Int.reduceLT, Int.reduceLE, Int.reduceEq, Int.reduceToNat, reduceCtorEq, reduceIte, Nat.zero_add, Nat.add_zero, *]
  refine LOOP_listM ts (fun i s σ' n' => (∃ a, s = [a, .sc (.int .i64 i)]) ∧ 48 ≤ n' ∧ σ' 0 = some (.c ⟨1, [[.tr (ts.map encT)]], true, false⟩) ∧ σ' 16 = some (.c ⟨1, [[.em]], true, false⟩) ∧
      ∃ ov, σ' 32 = some (.c ⟨1, [[ov]], true, false⟩) ∧ ((i = 0 ∧ ov = .em) ∨ ∃ i1, i1 < n' ∧ 32 < i1 ∧ ov = .ow i1 4 0 i ∧ σ' i1 = some (.c ⟨4, (ts.take i).map encT, true, true⟩)))
    (.refl ⟨⟨_, rfl⟩, ?_, ?_, ?_, .em, ?_, .inl ⟨rfl, rfl⟩⟩) ?_ ?_
  · omega
  · simp (disch := omega) only [upd_not, upd_is]
  · simp (disch := omega) only [upd_not, upd_is]
  · simp (disch := omega) only [upd_not, upd_is]
  · rintro i x K s' σ' n2 hx hi1 hi' hn1 ⟨⟨a, rfl⟩, hn2, h0, h16, ov, h32, hov⟩ hK
    have HK := Lib.hid hK; clear hK
    have ht : (ts.take (i + 1)).map encT = (ts.take i).map encT ++ [encT x] := by rw [List.take_add_one, hx, List.map_append]; rfl
    have HT := Lib.hid ht; clear ht
    have HC := Lib.hid (HO.out x (List.mem_of_getElem? hx))
    rcases hov with ⟨rfl, rfl⟩ | ⟨i1, hl1, hg1, rfl, hs1⟩
    · simp (maxSteps := 1000000) (disch := omega) only [lb_law06_All2, go_sem, wrapI, wrapB, upd_is, upd_not, Nat.reduceAdd, Nat.reduceSub, Nat.reduceMul, Nat.reduceLeDiff, Nat.reduceEqDiff, Int.reduceAdd, Int.reduceSub, Int.reduceMul, Int.reduceNeg, Int.reduceLT, Int.reduceLE, Int.reduceEq, Int.reduceToNat, reduceCtorEq, reduceIte, Nat.zero_add, Nat.add_zero, *]
      intro _
      refine callD_con0 HC.out (by simp only [brwL_cons, brwL_nil, brw_ag, encT_brw, List.append_nil, Option.map_some]) ?_
      simp (maxSteps := 1000000) (disch := omega) only [go_sem, wrapI, wrapB, upd_is, upd_not, Nat.reduceAdd, Nat.reduceSub, Nat.reduceMul, Nat.reduceLeDiff, Nat.reduceEqDiff, Int.reduceAdd, Int.reduceSub, Int.reduceMul, Int.reduceNeg, Int.reduceLT, Int.reduceLE, Int.reduceEq, Int.reduceToNat, reduceCtorEq, reduceIte, Nat.zero_add, Nat.add_zero, *]
      refine ⟨fun q hq => by omega, fun n_ hn_ => HK.out _ _ _ (.refl ⟨⟨_, rfl⟩, by omega, ?_, ?_, .ow (n2 + 144) 4 0 1, ?_, .inr ⟨n2 + 144, by omega, by omega, rfl, ?_⟩⟩)⟩
      · simp (disch := omega) only [upd_not]; exact h0
      · simp (disch := omega) only [upd_not]; exact h16
      · exact upd_is rfl
      · rw [upd_not (by omega), upd_is rfl, HT.out]; rfl
    · have hl : (List.take i ts).length = i := by rw [List.length_take]; omega
      have c1 : (i + 1) * 72 ≤ 140737488355328 := by omega
      have c2 : ¬ i1 = n2 + 144 := by omega
      have c3 : ¬ i1 = n2 + 128 := by omega
      simp (maxSteps := 1000000) (disch := omega) only [lb_law06_All2, go_sem, wrapI, wrapB, upd_is, upd_not, Nat.reduceAdd, Nat.reduceSub, Nat.reduceMul, Nat.reduceLeDiff, Nat.reduceEqDiff, Int.reduceAdd, Int.reduceSub, Int.reduceMul, Int.reduceNeg, Int.reduceLT, Int.reduceLE, Int.reduceEq, Int.reduceToNat, reduceCtorEq, reduceIte, Nat.zero_add, Nat.add_zero, *]
      intro _
      refine callD_con0 HC.out (by simp only [brwL_cons, brwL_nil, brw_ag, encT_brw, List.append_nil, Option.map_some]) ?_
      simp (maxSteps := 1000000) (disch := omega) only [go_sem, wrapI, wrapB, upd_is, upd_not, Nat.reduceAdd, Nat.reduceSub, Nat.reduceMul, Nat.reduceLeDiff, Nat.reduceEqDiff, Int.reduceAdd, Int.reduceSub, Int.reduceMul, Int.reduceNeg, Int.reduceLT, Int.reduceLE, Int.reduceEq, Int.reduceToNat, reduceCtorEq, reduceIte, Nat.zero_add, Nat.add_zero, *]
      refine ⟨fun q hq => by omega, fun n_ hn_ => HK.out _ _ _ (.refl ⟨⟨_, rfl⟩, by omega, ?_, ?_, .ow (n2 + 144) 4 0 (i + 1), ?_, .inr ⟨n2 + 144, by omega, by omega, rfl, ?_⟩⟩)⟩
      · simp (disch := omega) only [upd_not]; exact h0
      · simp (disch := omega) only [upd_not]; exact h16
      · exact upd_is rfl
      · rw [upd_not (by omega), upd_is rfl, HT.out]
  · rintro K s' σ' n2 hn1 ⟨⟨a, rfl⟩, hn2, h0, h16, ov, h32, hov⟩
    rw [List.take_length] at hov
    have hlo : leafok ov = true := by rcases hov with ⟨_, rfl⟩ | ⟨i1, _, _, rfl, _⟩ <;> rfl
    have HOV := Lib.hid hov; clear hov
    simp (maxSteps := 1000000) (disch := omega) only [lb_law06_All2, Int.lt_irrefl, go_sem, wrapI, wrapB, upd_is, upd_not, Nat.reduceAdd, Nat.reduceSub, Nat.reduceMul, Nat.reduceLeDiff, Nat.reduceEqDiff, Int.reduceAdd, Int.reduceSub, Int.reduceMul, Int.reduceNeg, Int.reduceLT, Int.reduceLE, Int.reduceEq, Int.reduceToNat, reduceCtorEq, reduceIte, Nat.zero_add, Nat.add_zero, *]
    intro _
    rw [← HR.out]
    have hib : ∃ I, ∀ v, brw (upd σ' 16 v) 5 ov = some (.tr (ts.map encT), I) := by
      rcases HOV.out with ⟨h, rfl⟩ | ⟨i1, h1, h2, rfl, h⟩
      · have h3 := List.eq_nil_of_length_eq_zero h
        subst h3; exact ⟨[], fun _ => rfl⟩
      · refine ⟨[i1], fun v => ?_⟩
        exact brw_all (by rw [upd_not (by omega)]; exact h) (List.length_map _) (by omega)
    obtain ⟨J, hJ⟩ := hib
    refine RC_ret (c := .ag [.tr (ts.map encT)]) (I := J ++ []) ?_ rfl
    simp only [brw_ag, brwL_cons, brwL_nil, hJ, Option.map_some]
theorem aEqs_C (c : Cl) : aEqs [2, 0, 1] true (.ag (encC c)) (.ag (encC c)) = some (.sc (.bool false)) := by
  simp [aEqs, eqK, encC, bb]
theorem aEqs_X (c : Ix) : aEqs [2, 0] true (.ag (encX c)) (.ag (encX c)) = some (.sc (.bool false)) := by
  simp [aEqs, eqK, encX, bb]
set_option maxHeartbeats 4000000 in
theorem alike_con (t : Tb) : Con Try.prog 44 [.ag (encT t), .ag (encT t)] (.ret (.sc (.int .i64 0))) := by
  refine con_of (by_law06_Alike ?_)
  generalize hR : RC _ = R
  have HR := Lib.hid hR; clear hR
  obtain ⟨name, columns, key, indexes⟩ := t
  simp (maxSteps := 1000000) (disch := omega) only [sh_law06_Alike, encT, decide_true, decide_false, go_sem, wrapI, wrapB, upd_is, upd_not, Nat.reduceAdd, Nat.reduceSub, Nat.reduceMul, Nat.reduceLeDiff, Nat.reduceEqDiff, Int.reduceAdd, Int.reduceSub, Int.reduceMul, Int.reduceNeg, Int.reduceLT, Int.reduceLE, Int.reduceEq, Int.reduceToNat, reduceCtorEq, reduceIte, Nat.zero_add, Nat.add_zero, *]
  intros
  refine LOOP_list columns (fun i s => ∃ a b c, s = [a, b, c, .sc (.int .i64 i)]) ⟨_, _, _, rfl⟩ ?_ ?_
  · rintro i x K s' n' hx hi hi' hn ⟨a, b, c, rfl⟩ hK
    have HK := Lib.hid hK; clear hK
    simp (maxSteps := 1000000) (disch := omega) only [lb_law06_Alike2, aEqs_C, go_sem, wrapI, wrapB, upd_is, upd_not, Nat.reduceAdd, Nat.reduceSub, Nat.reduceMul, Nat.reduceLeDiff, Nat.reduceEqDiff, Int.reduceAdd, Int.reduceSub, Int.reduceMul, Int.reduceNeg, Int.reduceLT, Int.reduceLE, Int.reduceEq, Int.reduceToNat, reduceCtorEq, reduceIte, Nat.zero_add, Nat.add_zero, *]
    intros
    simp (maxSteps := 1000000) (disch := omega) only [go_sem, wrapI, wrapB, upd_is, upd_not, Nat.reduceAdd, Nat.reduceSub, Nat.reduceMul, Nat.reduceLeDiff, Nat.reduceEqDiff, Int.reduceAdd, Int.reduceSub, Int.reduceMul, Int.reduceNeg, Int.reduceLT, Int.reduceLE, Int.reduceEq, Int.reduceToNat, reduceCtorEq, reduceIte, Nat.zero_add, Nat.add_zero, *]
    exact HK.out _ _ (by omega) ⟨_, _, _, rfl⟩
  · rintro K s' n' hn ⟨a, b, c, rfl⟩
    simp (maxSteps := 1000000) (disch := omega) only [lb_law06_Alike2, Int.lt_irrefl, go_sem, wrapI, wrapB, upd_is, upd_not, Nat.reduceAdd, Nat.reduceSub, Nat.reduceMul, Nat.reduceLeDiff, Nat.reduceEqDiff, Int.reduceAdd, Int.reduceSub, Int.reduceMul, Int.reduceNeg, Int.reduceLT, Int.reduceLE, Int.reduceEq, Int.reduceToNat, reduceCtorEq, reduceIte, Nat.zero_add, Nat.add_zero, *]
    intros
    refine LOOP_list indexes (fun i s => ∃ a b c, s = [a, b, c, .sc (.int .i64 i)]) ⟨_, _, _, rfl⟩ ?_ ?_
    · rintro i x K s' n' hx hi hi' hn ⟨a, b, c, rfl⟩ hK
      have HK := Lib.hid hK; clear hK
      simp (maxSteps := 1000000) (disch := omega) only [lb_law06_Alike1, aEqs_X, go_sem, wrapI, wrapB, upd_is, upd_not, Nat.reduceAdd, Nat.reduceSub, Nat.reduceMul, Nat.reduceLeDiff, Nat.reduceEqDiff, Int.reduceAdd, Int.reduceSub, Int.reduceMul, Int.reduceNeg, Int.reduceLT, Int.reduceLE, Int.reduceEq, Int.reduceToNat, reduceCtorEq, reduceIte, Nat.zero_add, Nat.add_zero, *]
      intros
      simp (maxSteps := 1000000) (disch := omega) only [go_sem, wrapI, wrapB, upd_is, upd_not, Nat.reduceAdd, Nat.reduceSub, Nat.reduceMul, Nat.reduceLeDiff, Nat.reduceEqDiff, Int.reduceAdd, Int.reduceSub, Int.reduceMul, Int.reduceNeg, Int.reduceLT, Int.reduceLE, Int.reduceEq, Int.reduceToNat, reduceCtorEq, reduceIte, Nat.zero_add, Nat.add_zero, *]
      exact HK.out _ _ (by omega) ⟨_, _, _, rfl⟩
    · rintro K s' n' hn ⟨a, b, c, rfl⟩
      simp (maxSteps := 1000000) (disch := omega) only [lb_law06_Alike1, Int.lt_irrefl, go_sem, wrapI, wrapB, upd_is, upd_not, Nat.reduceAdd, Nat.reduceSub, Nat.reduceMul, Nat.reduceLeDiff, Nat.reduceEqDiff, Int.reduceAdd, Int.reduceSub, Int.reduceMul, Int.reduceNeg, Int.reduceLT, Int.reduceLE, Int.reduceEq, Int.reduceToNat, reduceCtorEq, reduceIte, Nat.zero_add, Nat.add_zero, *]
      intros
      rw [← HR.out]; exact RC_ret rfl rfl
set_option maxHeartbeats 4000000 in
theorem unlike_con (ts : List Tb) : Con Try.prog 40 [.ag [.tr (ts.map encT)], .ag [.tr (ts.map encT)]] (.ret (.sc (.int .i64 0))) := by
  refine con_of (by_law06_Unlike ?_)
  generalize hR : RC _ = R
  have HR := Lib.hid hR; clear hR
  simp (maxSteps := 1000000) (disch := omega) only [sh_law06_Unlike, decide_true, decide_false, go_sem, wrapI, wrapB, upd_is, upd_not, Nat.reduceAdd, Nat.reduceSub, Nat.reduceMul, Nat.reduceLeDiff, Nat.reduceEqDiff, Int.reduceAdd, Int.reduceSub, Int.reduceMul, Int.reduceNeg, Int.reduceLT, Int.reduceLE, Int.reduceEq, Int.reduceToNat, reduceCtorEq, reduceIte, Nat.zero_add, Nat.add_zero, *]
  intros
  refine LOOP_list ts (fun i s => ∃ a b c, s = [a, b, c, .sc (.int .i64 i)]) ⟨_, _, _, rfl⟩ ?_ ?_
  · rintro i x K s' n' hx hi hi' hn ⟨a, b, c, rfl⟩ hK
    have HK := Lib.hid hK; clear hK
    have HA := Lib.hid (alike_con x)
    simp (maxSteps := 1000000) (disch := omega) only [lb_law06_Unlike2, go_sem, wrapI, wrapB, upd_is, upd_not, Nat.reduceAdd, Nat.reduceSub, Nat.reduceMul, Nat.reduceLeDiff, Nat.reduceEqDiff, Int.reduceAdd, Int.reduceSub, Int.reduceMul, Int.reduceNeg, Int.reduceLT, Int.reduceLE, Int.reduceEq, Int.reduceToNat, reduceCtorEq, reduceIte, Nat.zero_add, Nat.add_zero, *]
    intros
    refine callD_con0 HA.out (by simp only [brwL_cons, brwL_nil, brw_ag, encT_brw, List.append_nil, Option.map_some]) ?_
    simp (maxSteps := 1000000) (disch := omega) only [go_sem, wrapI, wrapB, upd_is, upd_not, Nat.reduceAdd, Nat.reduceSub, Nat.reduceMul, Nat.reduceLeDiff, Nat.reduceEqDiff, Int.reduceAdd, Int.reduceSub, Int.reduceMul, Int.reduceNeg, Int.reduceLT, Int.reduceLE, Int.reduceEq, Int.reduceToNat, reduceCtorEq, reduceIte, Nat.zero_add, Nat.add_zero, *]
    intros
    exact HK.out _ _ (by omega) ⟨_, _, _, rfl⟩
  · rintro K s' n' hn ⟨a, b, c, rfl⟩
    simp (maxSteps := 1000000) (disch := omega) only [lb_law06_Unlike2, Int.lt_irrefl, go_sem, wrapI, wrapB, upd_is, upd_not, Nat.reduceAdd, Nat.reduceSub, Nat.reduceMul, Nat.reduceLeDiff, Nat.reduceEqDiff, Int.reduceAdd, Int.reduceSub, Int.reduceMul, Int.reduceNeg, Int.reduceLT, Int.reduceLE, Int.reduceEq, Int.reduceToNat, reduceCtorEq, reduceIte, Nat.zero_add, Nat.add_zero, *]
    intros
    rw [← HR.out]; exact RC_ret rfl rfl
end Go.Proofs.Ytlhnncmflnjinaa
