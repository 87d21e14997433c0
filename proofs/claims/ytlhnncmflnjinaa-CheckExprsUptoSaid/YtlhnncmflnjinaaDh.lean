/- CheckBare, CheckKinds: they tell true. -/
import Derived.Test.YtlhnncmflnjinaaDg
set_option linter.unusedSimpArgs false
set_option linter.unusedVariables false
set_option maxRecDepth 100000
namespace Go.Proofs.Ytlhnncmflnjinaa
open Go Go.RowKit Am

theorem Bd.zero : Bd .zero := .mk _ _ _ _ _ _ _ (by decide) (by decide) (by decide) (by simp) (fun a ha => by cases ha)
set_option maxHeartbeats 4000000 in
theorem checkBare_con (ts : List Tb) (e : Ep) (agg : Bool) (hts : ts.length ≤ 1048576) (htb : ∀ t ∈ ts, TBd t) (hb : Bd e) : Con Try.prog 4 [.tr (ts.map encT), .ag (encE e), .sc (.bool agg)] (.ret (.sc (.bool true))) := by
  refine con_of (by_law07_CheckBare ?_)
  generalize hR : RC _ = R
  have HR := Lib.hid hR; clear hR
  have HT := Lib.hid (tables_con ts hts htb)
  have HC := Lib.hid (checkE_con ts (fun t ht => (htb t ht).col) e hb agg)
  have HTB := Lib.hid htb; clear htb hb
  simp (maxSteps := 1000000) (disch := omega) only [sh_law07_CheckBare, go_sem, wrapI, wrapB, upd_is, upd_not, Nat.reduceAdd, Nat.reduceSub, Nat.reduceMul, Nat.reduceLeDiff, Nat.reduceEqDiff, Int.reduceAdd, Int.reduceSub, Int.reduceMul, Int.reduceNeg, Int.reduceLT, Int.reduceLE, Int.reduceEq, Int.reduceToNat, reduceCtorEq, reduceIte, Nat.zero_add, Nat.add_zero, *]
  refine CALL_con0 alive_con rfl ?_
  simp (maxSteps := 1000000) (disch := omega) only [go_sem, wrapI, wrapB, upd_is, upd_not, Nat.reduceAdd, Nat.reduceSub, Nat.reduceMul, Nat.reduceLeDiff, Nat.reduceEqDiff, Int.reduceAdd, Int.reduceSub, Int.reduceMul, Int.reduceNeg, Int.reduceLT, Int.reduceLE, Int.reduceEq, Int.reduceToNat, reduceCtorEq, reduceIte, Nat.zero_add, Nat.add_zero, *]
  refine callD_con0 HT.out rfl ?_
  simp (maxSteps := 1000000) (disch := omega) only [go_sem, wrapI, wrapB, upd_is, upd_not, Nat.reduceAdd, Nat.reduceSub, Nat.reduceMul, Nat.reduceLeDiff, Nat.reduceEqDiff, Int.reduceAdd, Int.reduceSub, Int.reduceMul, Int.reduceNeg, Int.reduceLT, Int.reduceLE, Int.reduceEq, Int.reduceToNat, reduceCtorEq, reduceIte, Nat.zero_add, Nat.add_zero, *]
  refine callD_con0 HC.out (by simp only [brwL_cons, brwL_nil, brw_ag, brw_tr, brw_sc, encE_brw, List.append_nil, Option.map_some]) ?_
  cases hq : checkE ts e agg with
  | error x =>
    have hx := checkE_err hq
    clear hq HC HT
    simp (maxSteps := 1000000) (disch := omega) only [tripEnd, go_sem, wrapI, wrapB, upd_is, upd_not, Nat.reduceAdd, Nat.reduceSub, Nat.reduceMul, Nat.reduceLeDiff, Nat.reduceEqDiff, Int.reduceAdd, Int.reduceSub, Int.reduceMul, Int.reduceNeg, Int.reduceLT, Int.reduceLE, Int.reduceEq, Int.reduceToNat, reduceCtorEq, reduceIte, Nat.zero_add, Nat.add_zero, *]
    refine ⟨fun x hx => by omega, fun n_ hn_ => ?_⟩
    refine CALL_con0 (num_con _) rfl ?_
    simp (maxSteps := 1000000) (disch := omega) only [go_sem, wrapI, wrapB, upd_is, upd_not, Nat.reduceAdd, Nat.reduceSub, Nat.reduceMul, Nat.reduceLeDiff, Nat.reduceEqDiff, Int.reduceAdd, Int.reduceSub, Int.reduceMul, Int.reduceNeg, Int.reduceLT, Int.reduceLE, Int.reduceEq, Int.reduceToNat, reduceCtorEq, reduceIte, Nat.zero_add, Nat.add_zero, *]
    refine CALL_con0 (same_con .zero .zero) rfl ?_
    have hs := (sameF_iff .zero .zero).2 rfl
    simp (maxSteps := 1000000) (disch := omega) only [go_sem, wrapI, wrapB, upd_is, upd_not, Nat.reduceAdd, Nat.reduceSub, Nat.reduceMul, Nat.reduceLeDiff, Nat.reduceEqDiff, Int.reduceAdd, Int.reduceSub, Int.reduceMul, Int.reduceNeg, Int.reduceLT, Int.reduceLE, Int.reduceEq, Int.reduceToNat, reduceCtorEq, reduceIte, Nat.zero_add, Nat.add_zero, *]
    rw [← HR.out]; exact RC_ret rfl rfl
  | ok p =>
    have HB := Lib.hid (bare_check hq)
    clear hq HC HT
    simp (maxSteps := 1000000) (disch := omega) only [tripEnd, go_sem, wrapI, wrapB, upd_is, upd_not, Nat.reduceAdd, Nat.reduceSub, Nat.reduceMul, Nat.reduceLeDiff, Nat.reduceEqDiff, Int.reduceAdd, Int.reduceSub, Int.reduceMul, Int.reduceNeg, Int.reduceLT, Int.reduceLE, Int.reduceEq, Int.reduceToNat, reduceCtorEq, reduceIte, Nat.zero_add, Nat.add_zero, *]
    refine ⟨fun x hx => by omega, fun n_ hn_ => ?_⟩
    refine CALL_con0 (num_con _) rfl ?_
    simp (maxSteps := 1000000) (disch := omega) only [go_sem, wrapI, wrapB, upd_is, upd_not, Nat.reduceAdd, Nat.reduceSub, Nat.reduceMul, Nat.reduceLeDiff, Nat.reduceEqDiff, Int.reduceAdd, Int.reduceSub, Int.reduceMul, Int.reduceNeg, Int.reduceLT, Int.reduceLE, Int.reduceEq, Int.reduceToNat, reduceCtorEq, reduceIte, Nat.zero_add, Nat.add_zero, *]
    refine LOOP_listM ts (fun i s σ' n' => (∃ a, s = [a, .sc (.int .i64 (cols (ts.take i))), .sc (.int .i64 i)]) ∧ 0 ≤ cols (ts.take i) ∧ cols (ts.take i) ≤ i * 1048576 ∧ σ' 160 = some (.c ⟨7, [encE p.1], true, false⟩)) (.refl ⟨⟨_, rfl⟩, by simp [cols], by simp [cols], rfl⟩) ?_ ?_
    · rintro i t K s' σ' n2 hx hi hi' hn ⟨⟨a, rfl⟩, h1, h2, h3⟩ hK
      have HK := Lib.hid hK; clear hK
      have hcl := (HTB.out t (List.mem_of_getElem? hx)).col
      have HCT := Lib.hid (cols_take hx)
      generalize cols (ts.take i) = c at *
      simp (maxSteps := 1000000) (disch := omega) only [lb_law07_CheckBare3, encT, go_sem, wrapI, wrapB, upd_is, upd_not, Nat.reduceAdd, Nat.reduceSub, Nat.reduceMul, Nat.reduceLeDiff, Nat.reduceEqDiff, Int.reduceAdd, Int.reduceSub, Int.reduceMul, Int.reduceNeg, Int.reduceLT, Int.reduceLE, Int.reduceEq, Int.reduceToNat, reduceCtorEq, reduceIte, Nat.zero_add, Nat.add_zero, *]
      intro _ _
      refine HK.out _ _ _ (.refl ⟨⟨_, by rw [HCT.out]; rfl⟩, ?_, ?_, h3⟩)
      · rw [HCT.out]; omega
      · rw [HCT.out]; omega
    · rintro K s' σ' n2 hn ⟨⟨a, rfl⟩, h1, h2, h3⟩
      rw [List.take_length] at h1 h2 ⊢
      have HBC := Lib.hid (bare_con (cols ts) p.1)
      simp (maxSteps := 1000000) (disch := omega) only [lb_law07_CheckBare3, Int.lt_irrefl, go_sem, wrapI, wrapB, upd_is, upd_not, Nat.reduceAdd, Nat.reduceSub, Nat.reduceMul, Nat.reduceLeDiff, Nat.reduceEqDiff, Int.reduceAdd, Int.reduceSub, Int.reduceMul, Int.reduceNeg, Int.reduceLT, Int.reduceLE, Int.reduceEq, Int.reduceToNat, reduceCtorEq, reduceIte, Nat.zero_add, Nat.add_zero, *]
      intro _
      refine CALL_con0 HBC.out (by simp only [brwL_cons, brwL_nil, brw_ag, brw_tr, brw_sc, encE_brw, List.append_nil, Option.map_some]) ?_
      rw [HB.out]
      simp (maxSteps := 1000000) (disch := omega) only [go_sem, wrapI, wrapB, upd_is, upd_not, Nat.reduceAdd, Nat.reduceSub, Nat.reduceMul, Nat.reduceLeDiff, Nat.reduceEqDiff, Int.reduceAdd, Int.reduceSub, Int.reduceMul, Int.reduceNeg, Int.reduceLT, Int.reduceLE, Int.reduceEq, Int.reduceToNat, reduceCtorEq, reduceIte, Nat.zero_add, Nat.add_zero, *]
      rw [← HR.out]; exact RC_ret rfl rfl
/-- what is told, as three things -/
def trip : Except Int (Ep × Int) → Ep × Int × Int
  | .ok p => (p.1, p.2, 0)
  | .error x => (.zero, 0, x)
theorem tripEnd_is (r : Except Int (Ep × Int)) : tripEnd r = .ret (.tp [.ag (encE (trip r).1), .sc (.int .i64 (trip r).2.1), .sc (.int .i64 (trip r).2.2)]) := by
  cases r <;> rfl
def kindsAre (a b c : Ep × Int × Int) : Prop :=
  (a.2.2 ≠ 0 ∧ b.2.2 ≠ 0 ∧ c.2.2 ≠ 0) ∨ (a.2.2 = 0 ∧ b.2.2 = 10 ∧ c.2.2 = 10) ∨ (a.2.2 = 0 ∧ b.2.2 = 3 ∧ c.2.2 = 3) ∨
  (a.2.2 = 0 ∧ b.2.2 = 0 ∧ c.2.2 = 0 ∧ a.2.1 = 0 ∧ b.2.1 = 2 ∧ c.2.1 = 1 ∧ b.1.op = 3 ∧ c.1.op = 2) ∨
  (a.2.2 = 0 ∧ b.2.2 = 0 ∧ c.2.2 = 81 ∧ a.2.1 = 2 ∧ b.2.1 = 2 ∧ b.1.op = 3) ∨
  (a.2.2 = 0 ∧ b.2.2 = 81 ∧ c.2.2 = 0 ∧ a.2.1 = 1 ∧ c.2.1 = 1 ∧ c.1.op = 2) ∨
  (a.2.2 = 0 ∧ b.2.2 = 81 ∧ c.2.2 = 81 ∧ a.2.1 ≠ 0 ∧ a.2.1 ≠ 1 ∧ a.2.1 ≠ 2)
theorem kinds_law (ts : List Tb) (e : Ep) : kindsAre (trip (checkE ts e false)) (trip (checkE ts (under 3 e) false)) (trip (checkE ts (under 2 e) false)) := by
  rw [under_is (.inr rfl), under_is (.inl rfl)]
  cases hq : checkE ts e false with
  | error x =>
    refine .inl ?_
    have hx := checkE_err hq
    unfold checkE at hq
    split at hq
    · rename_i h1
      rw [if_pos h1, if_pos h1]
      exact ⟨hx, by decide, by decide⟩
    · rename_i h1
      rw [if_neg h1, if_neg h1]
      split at hq
      · rename_i h2
        have h3 : (walkF 11 e 1).1 ≠ 0 := fun h => h2 (walkF_mono 11 e 1 12 0 h (by omega) (by omega)).1
        rw [if_pos h3, if_pos h3]
        exact ⟨hx, h3, h3⟩
      · rw [hq]
        refine ⟨hx, ?_⟩
        split
        · rename_i h3; exact ⟨h3, h3⟩
        · exact ⟨hx, hx⟩
  | ok p =>
    refine .inr ?_
    unfold checkE at hq
    split at hq
    · cases hq
    · rename_i h1
      rw [if_neg h1, if_neg h1]
      split at hq
      · cases hq
      · rename_i h2
        have hg := walkF_gd 12 e 0 (by simpa using h2)
        rw [hq]
        rcases walkF_kind hg 11 1 with h3 | h3 | h3
        · rw [if_neg (by simp [h3]), if_neg (by simp [h3])]
          refine .inr (.inr ?_)
          simp only [fitOk]
          by_cases k0 : p.2 = 0
          · refine .inl ?_
            simp [trip, h3, k0, Ep.op]
          · by_cases k1 : p.2 = 1
            · refine .inr (.inr (.inl ?_))
              simp [trip, k1, h3, Ep.op]
            · by_cases k2 : p.2 = 2
              · refine .inr (.inl ?_)
                simp [trip, k2, h3, Ep.op]
              · refine .inr (.inr (.inr ?_))
                simp [trip, k0, k1, k2, h3]
        · rw [if_pos (by simp [h3]), if_pos (by simp [h3]), h3]
          exact .inr (.inl ⟨rfl, rfl, rfl⟩)
        · rw [if_pos (by simp [h3]), if_pos (by simp [h3]), h3]
          exact .inl ⟨rfl, rfl, rfl⟩
end Go.Proofs.Ytlhnncmflnjinaa
