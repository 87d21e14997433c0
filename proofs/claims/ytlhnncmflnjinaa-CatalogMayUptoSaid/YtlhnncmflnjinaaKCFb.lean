/- Packed by a program of this repo: Fb. -/
import Derived.Test.YtlhnncmflnjinaaKCFa
set_option linter.unusedSimpArgs false
set_option linter.unusedVariables false
set_option maxRecDepth 100000
namespace Go.Proofs.Ytlhnncmflnjinaa
open Go Go.RowKit Am
attribute [-go_sem] guardP_if guardK_if guardD_if COND_bool
attribute [local go_sem low] guardP_if guardK_if guardD_if COND_bool

/-- may columns be, behind others of these names? -/
def colsF : List Tx → List Cl → Bool
  | _, [] => true
  | seen, c :: cs => if c.name ∈ seen ∨ nameL c.name = false ∨ c.kind < 1 ∨ 3 < c.kind then false else colsF (seen ++ [c.name]) cs
def ixsF (n : Int) : List Tx → List Ix → Bool
  | _, [] => true
  | seen, x :: xs => if x.name ∈ seen ∨ nameL x.name = false ∨ ¬ (0 ≤ x.at_ ∧ x.at_ < n) then false else ixsF n (seen ++ [x.name]) xs
def mayF (t : Tb) : Bool :=
  if nameL t.name = false ∨ (t.columns.length : Int) < 1 ∨ 8 < (t.columns.length : Int) ∨ 4 < (t.indexes.length : Int) ∨ ¬ (0 ≤ t.key ∧ t.key < t.columns.length) ∨ ((t.columns[t.key.toNat]?).map (·.notNull)) ≠ some true then false
  else colsF [] t.columns && ixsF t.columns.length [] t.indexes
/-- a table whose texts are not too long and whose numbers fit -/
structure TRg (t : Tb) : Prop where
  bd : TBd0 t
  key : rng t.key
  ind : ∀ x ∈ t.indexes, rng x.at_
theorem wrapU {k : Int} (h : rng k) : IntKind.u64.wrap k = if 0 ≤ k then k else k + 18446744073709551616 := by
  unfold rng at h
  have : IntKind.u64.wrap k = k % 18446744073709551616 := by simp [IntKind.wrap, IntKind.signed, IntKind.bits]
  rw [this]
  split <;> omega
theorem drop_at {α : Type} {l : List α} {i : Nat} {x : α} (h : l[i]? = some x) : l.drop i = x :: l.drop (i + 1) := by
  obtain ⟨hi, rfl⟩ := List.getElem?_eq_some_iff.1 h
  exact List.drop_eq_getElem_cons hi
set_option maxHeartbeats 16000000 in
theorem may_con (t : Tb) (ht : TRg t) : Con Try.prog 75 [.ag (encT t)] (.ret (.sc (.bool (mayF t)))) := by
  refine con_of (by_catalog_May ?_)
  generalize hR : RC _ = R
  have HR := Lib.hid hR; clear hR
  have hm : mayF t = if nameL t.name = false ∨ (t.columns.length : Int) < 1 ∨ 8 < (t.columns.length : Int) ∨ 4 < (t.indexes.length : Int) ∨ ¬ (0 ≤ t.key ∧ t.key < t.columns.length) ∨ ((t.columns[t.key.toNat]?).map (·.notNull)) ≠ some true then false
    else colsF [] t.columns && ixsF t.columns.length [] t.indexes := rfl
  have HM := Lib.hid hm; clear hm
  have HN := Lib.hid (name_con t.name (by have := ht.bd.name; omega))
  have HCN := Lib.hid (fun c (hc : c ∈ t.columns) => name_con c.name (by have := ht.bd.col.2 c hc; omega))
  have HXN := Lib.hid (fun c (hc : c ∈ t.indexes) => name_con c.name (by have := ht.bd.ind.2 c hc; omega))
  have HK := Lib.hid (wrapU ht.key)
  have HRK := Lib.hid ht.key
  have HRA := Lib.hid ht.ind
  have HXK := Lib.hid (fun c (hc : c ∈ t.indexes) => wrapU (ht.ind c hc))
  clear ht
  have no : ∀ σ n, (nameL t.name = false ∨ (t.columns.length : Int) < 1 ∨ 8 < (t.columns.length : Int) ∨ 4 < (t.indexes.length : Int) ∨ ¬ (0 ≤ t.key ∧ t.key < t.columns.length) ∨ ((t.columns[t.key.toNat]?).map (·.notNull)) ≠ some true) → R (.ret (.sc (.bool false))) σ n := by
    intro σ n h
    rw [← HR.out, HM.out, if_pos h]; exact RC_ret rfl rfl
  have NO := Lib.hid no; clear no
  cases h1 : nameL t.name with
  | false =>
    rw [h1] at HN
    simp (maxSteps := 1000000) (disch := omega) only [sh_catalog_May, encT, go_sem, wrapI, wrapB, upd_is, upd_not, Nat.reduceAdd, Nat.reduceSub, Nat.reduceMul, Nat.reduceLeDiff, Nat.reduceEqDiff, Int.reduceAdd, Int.reduceSub, Int.reduceMul, Int.reduceNeg, Int.reduceLT, Int.reduceLE, Int.reduceEq, Int.reduceToNat, reduceCtorEq, reduceIte, Nat.zero_add, Nat.add_zero, *]
    intro _
    refine CALL_con0 HN.out rfl ?_
    simp (maxSteps := 1000000) (disch := omega) only [go_sem, wrapI, wrapB, upd_is, upd_not, Nat.reduceAdd, Nat.reduceSub, Nat.reduceMul, Nat.reduceLeDiff, Nat.reduceEqDiff, Int.reduceAdd, Int.reduceSub, Int.reduceMul, Int.reduceNeg, Int.reduceLT, Int.reduceLE, Int.reduceEq, Int.reduceToNat, reduceCtorEq, reduceIte, Nat.zero_add, Nat.add_zero, *]
    exact NO.out _ _ (.inl h1)
  | true =>
    rw [h1] at HN
    by_cases h2 : (t.columns.length : Int) < 1
    · simp (maxSteps := 1000000) (disch := omega) only [sh_catalog_May, encT, go_sem, wrapI, wrapB, upd_is, upd_not, Nat.reduceAdd, Nat.reduceSub, Nat.reduceMul, Nat.reduceLeDiff, Nat.reduceEqDiff, Int.reduceAdd, Int.reduceSub, Int.reduceMul, Int.reduceNeg, Int.reduceLT, Int.reduceLE, Int.reduceEq, Int.reduceToNat, reduceCtorEq, reduceIte, Nat.zero_add, Nat.add_zero, *]
      intro _
      refine CALL_con0 HN.out rfl ?_
      simp (maxSteps := 1000000) (disch := omega) only [go_sem, wrapI, wrapB, upd_is, upd_not, Nat.reduceAdd, Nat.reduceSub, Nat.reduceMul, Nat.reduceLeDiff, Nat.reduceEqDiff, Int.reduceAdd, Int.reduceSub, Int.reduceMul, Int.reduceNeg, Int.reduceLT, Int.reduceLE, Int.reduceEq, Int.reduceToNat, reduceCtorEq, reduceIte, Nat.zero_add, Nat.add_zero, *]
      exact NO.out _ _ (.inr (.inl h2))
    · by_cases h3 : 8 < (t.columns.length : Int)
      · simp (maxSteps := 1000000) (disch := omega) only [sh_catalog_May, encT, go_sem, wrapI, wrapB, upd_is, upd_not, Nat.reduceAdd, Nat.reduceSub, Nat.reduceMul, Nat.reduceLeDiff, Nat.reduceEqDiff, Int.reduceAdd, Int.reduceSub, Int.reduceMul, Int.reduceNeg, Int.reduceLT, Int.reduceLE, Int.reduceEq, Int.reduceToNat, reduceCtorEq, reduceIte, Nat.zero_add, Nat.add_zero, *]
        intro _
        refine CALL_con0 HN.out rfl ?_
        simp (maxSteps := 1000000) (disch := omega) only [go_sem, wrapI, wrapB, upd_is, upd_not, Nat.reduceAdd, Nat.reduceSub, Nat.reduceMul, Nat.reduceLeDiff, Nat.reduceEqDiff, Int.reduceAdd, Int.reduceSub, Int.reduceMul, Int.reduceNeg, Int.reduceLT, Int.reduceLE, Int.reduceEq, Int.reduceToNat, reduceCtorEq, reduceIte, Nat.zero_add, Nat.add_zero, *]
        exact NO.out _ _ (.inr (.inr (.inl h3)))
      · by_cases h4 : 4 < (t.indexes.length : Int)
        · simp (maxSteps := 1000000) (disch := omega) only [sh_catalog_May, encT, go_sem, wrapI, wrapB, upd_is, upd_not, Nat.reduceAdd, Nat.reduceSub, Nat.reduceMul, Nat.reduceLeDiff, Nat.reduceEqDiff, Int.reduceAdd, Int.reduceSub, Int.reduceMul, Int.reduceNeg, Int.reduceLT, Int.reduceLE, Int.reduceEq, Int.reduceToNat, reduceCtorEq, reduceIte, Nat.zero_add, Nat.add_zero, *]
          intro _
          refine CALL_con0 HN.out rfl ?_
          simp (maxSteps := 1000000) (disch := omega) only [go_sem, wrapI, wrapB, upd_is, upd_not, Nat.reduceAdd, Nat.reduceSub, Nat.reduceMul, Nat.reduceLeDiff, Nat.reduceEqDiff, Int.reduceAdd, Int.reduceSub, Int.reduceMul, Int.reduceNeg, Int.reduceLT, Int.reduceLE, Int.reduceEq, Int.reduceToNat, reduceCtorEq, reduceIte, Nat.zero_add, Nat.add_zero, *]
          exact NO.out _ _ (.inr (.inr (.inr (.inl h4))))
        · have hwn : IntKind.u64.wrap (t.columns.length : Int) = t.columns.length := by rw [wrapU (by unfold rng; omega), if_pos (by omega)]
          by_cases h5 : 0 ≤ t.key ∧ t.key < t.columns.length
          · obtain ⟨h5, h6⟩ := h5
            have h6' : ¬ (t.columns.length : Int) ≤ t.key := by omega
            have hwk : IntKind.u64.wrap t.key = t.key := by rw [HK.out, if_pos h5]
            obtain ⟨kc, hkc⟩ : ∃ c, t.columns[t.key.toNat]? = some c := ⟨t.columns[t.key.toNat]'(by omega), List.getElem?_eq_getElem _⟩
            cases h7 : kc.notNull with
            | false =>
              simp (maxSteps := 1000000) (disch := omega) only [sh_catalog_May, encT, encC, go_sem, wrapI, wrapB, upd_is, upd_not, Nat.reduceAdd, Nat.reduceSub, Nat.reduceMul, Nat.reduceLeDiff, Nat.reduceEqDiff, Int.reduceAdd, Int.reduceSub, Int.reduceMul, Int.reduceNeg, Int.reduceLT, Int.reduceLE, Int.reduceEq, Int.reduceToNat, reduceCtorEq, reduceIte, Nat.zero_add, Nat.add_zero, *]
              intro _
              refine CALL_con0 HN.out rfl ?_
              simp (maxSteps := 1000000) (disch := omega) only [encC, go_sem, wrapI, wrapB, upd_is, upd_not, Nat.reduceAdd, Nat.reduceSub, Nat.reduceMul, Nat.reduceLeDiff, Nat.reduceEqDiff, Int.reduceAdd, Int.reduceSub, Int.reduceMul, Int.reduceNeg, Int.reduceLT, Int.reduceLE, Int.reduceEq, Int.reduceToNat, reduceCtorEq, reduceIte, Nat.zero_add, Nat.add_zero, *]
              exact NO.out _ _ (.inr (.inr (.inr (.inr (.inr (by rw [hkc]; simp [h7]))))))
            | true =>
              have hgo : mayF t = (colsF [] t.columns && ixsF t.columns.length [] t.indexes) := by
                rw [HM.out, if_neg]
                rintro (h | h | h | h | h | h)
                · rw [h1] at h; cases h
                · exact h2 h
                · exact h3 h
                · exact h4 h
                · exact h ⟨h5, h6⟩
                · rw [hkc] at h; simp [h7] at h
              have HGO := Lib.hid hgo; clear hgo HM NO
              simp (maxSteps := 1000000) (disch := omega) only [sh_catalog_May, encT, encC, go_sem, wrapI, wrapB, upd_is, upd_not, Nat.reduceAdd, Nat.reduceSub, Nat.reduceMul, Nat.reduceLeDiff, Nat.reduceEqDiff, Int.reduceAdd, Int.reduceSub, Int.reduceMul, Int.reduceNeg, Int.reduceLT, Int.reduceLE, Int.reduceEq, Int.reduceToNat, reduceCtorEq, reduceIte, Nat.zero_add, Nat.add_zero, *]
              intro _
              refine CALL_con0 HN.out rfl ?_
              simp (maxSteps := 1000000) (disch := omega) only [encC, go_sem, wrapI, wrapB, upd_is, upd_not, Nat.reduceAdd, Nat.reduceSub, Nat.reduceMul, Nat.reduceLeDiff, Nat.reduceEqDiff, Int.reduceAdd, Int.reduceSub, Int.reduceMul, Int.reduceNeg, Int.reduceLT, Int.reduceLE, Int.reduceEq, Int.reduceToNat, reduceCtorEq, reduceIte, Nat.zero_add, Nat.add_zero, *]
              have HCo := Lib.hid hwn
              clear hwk hwn HN hkc h7 h1 h2 h5 h6 h6'
              refine LOOP_listM t.columns (fun i s σ' n' => (∃ a b c, s = [a, b, c, .sc (.bool false), .sc (.int .i64 i)]) ∧ colsF [] t.columns = colsF ((t.columns.take i).map (·.name)) (t.columns.drop i) ∧ σ' 0 = some (.c ⟨4, [[.s t.name, .tr (t.columns.map encC), .sc (.int .i64 t.key), .tr (t.indexes.map encX)]], true, false⟩) ∧ σ' 16 = some (.m (setOf ((t.columns.take i).map (·.name))) true)) (.refl ⟨⟨_, _, _, rfl⟩, rfl, rfl, rfl⟩) ?_ ?_
              · rintro i c K s' σ' n2 hx hi hi' hn ⟨⟨u1, u2, u3, rfl⟩, hw, hb0, hb1⟩ hK
                have HK := Lib.hid hK; clear hK
                have hc : c ∈ t.columns := List.mem_of_getElem? hx
                have HCN' := Lib.hid (HCN.out c hc)
                have hw2 : colsF ((t.columns.take i).map (·.name)) (t.columns.drop i) = if c.name ∈ (t.columns.take i).map (·.name) ∨ nameL c.name = false ∨ c.kind < 1 ∨ 3 < c.kind then false else colsF ((t.columns.take i).map (·.name) ++ [c.name]) (t.columns.drop (i + 1)) := by
                  rw [drop_at hx, colsF]
                have hnx : (t.columns.take (i + 1)).map (·.name) = (t.columns.take i).map (·.name) ++ [c.name] := by
                  rw [List.take_add_one, hx, List.map_append]; rfl
                have HNX := Lib.hid hnx; clear hnx
                generalize (t.columns.take i).map (·.name) = nm at hw hw2 hb1 HNX
                have HW := Lib.hid (hw.trans hw2); clear hw hw2
                have no : (c.name ∈ nm ∨ nameL c.name = false ∨ c.kind < 1 ∨ 3 < c.kind) → ∀ σ m, R (.ret (.sc (.bool false))) σ m := by
                  intro h σ m
                  rw [← HR.out, HGO.out, HW.out, if_pos h]; exact RC_ret rfl rfl
                have NO := Lib.hid no; clear no
                simp (maxSteps := 1000000) (disch := omega) only [lb_catalog_May4, encC, go_sem, wrapI, wrapB, upd_is, upd_not, Nat.reduceAdd, Nat.reduceSub, Nat.reduceMul, Nat.reduceLeDiff, Nat.reduceEqDiff, Int.reduceAdd, Int.reduceSub, Int.reduceMul, Int.reduceNeg, Int.reduceLT, Int.reduceLE, Int.reduceEq, Int.reduceToNat, reduceCtorEq, reduceIte, Nat.zero_add, Nat.add_zero, *]
                rw [aLkp_set (show _ from (by simp (disch := omega) only [upd_not]; exact hb1))]
                by_cases g1 : c.name ∈ nm
                · have hd : decide (c.name ∈ nm) = true := decide_eq_true g1
                  have G1 := Lib.hid g1; clear g1
                  simp (maxSteps := 1000000) (disch := omega) only [hd, go_sem, wrapI, wrapB, upd_is, upd_not, Nat.reduceAdd, Nat.reduceSub, Nat.reduceMul, Nat.reduceLeDiff, Nat.reduceEqDiff, Int.reduceAdd, Int.reduceSub, Int.reduceMul, Int.reduceNeg, Int.reduceLT, Int.reduceLE, Int.reduceEq, Int.reduceToNat, reduceCtorEq, reduceIte, Nat.zero_add, Nat.add_zero, *]
                  exact NO.out (.inl G1.out) _ _
                · have hd : decide (c.name ∈ nm) = false := decide_eq_false g1
                  have G1 := Lib.hid g1; clear g1
                  simp (maxSteps := 1000000) (disch := omega) only [hd, go_sem, wrapI, wrapB, upd_is, upd_not, Nat.reduceAdd, Nat.reduceSub, Nat.reduceMul, Nat.reduceLeDiff, Nat.reduceEqDiff, Int.reduceAdd, Int.reduceSub, Int.reduceMul, Int.reduceNeg, Int.reduceLT, Int.reduceLE, Int.reduceEq, Int.reduceToNat, reduceCtorEq, reduceIte, Nat.zero_add, Nat.add_zero, *]
                  cases g2 : nameL c.name with
                  | false =>
                    rw [g2] at HCN'
                    refine CALL_con0 HCN'.out rfl ?_
                    simp (maxSteps := 1000000) (disch := omega) only [go_sem, wrapI, wrapB, upd_is, upd_not, Nat.reduceAdd, Nat.reduceSub, Nat.reduceMul, Nat.reduceLeDiff, Nat.reduceEqDiff, Int.reduceAdd, Int.reduceSub, Int.reduceMul, Int.reduceNeg, Int.reduceLT, Int.reduceLE, Int.reduceEq, Int.reduceToNat, reduceCtorEq, reduceIte, Nat.zero_add, Nat.add_zero, *]
                    exact NO.out (.inr (.inl g2)) _ _
                  | true =>
                    rw [g2] at HCN'
                    refine CALL_con0 HCN'.out rfl ?_
                    by_cases g3 : c.kind < 1
                    · simp (maxSteps := 1000000) (disch := omega) only [go_sem, wrapI, wrapB, upd_is, upd_not, Nat.reduceAdd, Nat.reduceSub, Nat.reduceMul, Nat.reduceLeDiff, Nat.reduceEqDiff, Int.reduceAdd, Int.reduceSub, Int.reduceMul, Int.reduceNeg, Int.reduceLT, Int.reduceLE, Int.reduceEq, Int.reduceToNat, reduceCtorEq, reduceIte, Nat.zero_add, Nat.add_zero, *]
                      exact NO.out (.inr (.inr (.inl g3))) _ _
                    · by_cases g4 : 3 < c.kind
                      · simp (maxSteps := 1000000) (disch := omega) only [go_sem, wrapI, wrapB, upd_is, upd_not, Nat.reduceAdd, Nat.reduceSub, Nat.reduceMul, Nat.reduceLeDiff, Nat.reduceEqDiff, Int.reduceAdd, Int.reduceSub, Int.reduceMul, Int.reduceNeg, Int.reduceLT, Int.reduceLE, Int.reduceEq, Int.reduceToNat, reduceCtorEq, reduceIte, Nat.zero_add, Nat.add_zero, *]
                        exact NO.out (.inr (.inr (.inr g4))) _ _
                      · simp (maxSteps := 1000000) (disch := omega) only [go_sem, wrapI, wrapB, upd_is, upd_not, Nat.reduceAdd, Nat.reduceSub, Nat.reduceMul, Nat.reduceLeDiff, Nat.reduceEqDiff, Int.reduceAdd, Int.reduceSub, Int.reduceMul, Int.reduceNeg, Int.reduceLT, Int.reduceLE, Int.reduceEq, Int.reduceToNat, reduceCtorEq, reduceIte, Nat.zero_add, Nat.add_zero, *]
                        rw [hMup_set (show _ from (by simp (disch := omega) only [upd_not]; exact hb1)), if_neg G1.out]
                        simp (maxSteps := 1000000) (disch := omega) only [go_sem, wrapI, wrapB, upd_is, upd_not, Nat.reduceAdd, Nat.reduceSub, Nat.reduceMul, Nat.reduceLeDiff, Nat.reduceEqDiff, Int.reduceAdd, Int.reduceSub, Int.reduceMul, Int.reduceNeg, Int.reduceLT, Int.reduceLE, Int.reduceEq, Int.reduceToNat, reduceCtorEq, reduceIte, Nat.zero_add, Nat.add_zero, *]
                        refine HK.out _ _ _ (.refl ⟨⟨_, _, _, rfl⟩, ?_, ?_, ?_⟩)
                        · rw [HNX.out, HW.out, if_neg]
                          rintro (h | h | h | h)
                          · exact G1.out h
                          · rw [g2] at h; cases h
                          · exact g3 h
                          · exact g4 h
                        · simp (disch := omega) only [upd_not]; exact hb0
                        · rw [HNX.out]; simp only [upd_is]
              · rintro K s' σ' n2 hn ⟨⟨u1, u2, u3, rfl⟩, hw, hb0, hb1⟩
                have hw' : colsF [] t.columns = true := by
                  rw [hw, List.drop_length]; rfl
                rw [hw', Bool.true_and] at HGO
                clear hw hw'
                simp (maxSteps := 1000000) (disch := omega) only [lb_catalog_May4, Int.lt_irrefl, go_sem, wrapI, wrapB, upd_is, upd_not, Nat.reduceAdd, Nat.reduceSub, Nat.reduceMul, Nat.reduceLeDiff, Nat.reduceEqDiff, Int.reduceAdd, Int.reduceSub, Int.reduceMul, Int.reduceNeg, Int.reduceLT, Int.reduceLE, Int.reduceEq, Int.reduceToNat, reduceCtorEq, reduceIte, Nat.zero_add, Nat.add_zero, *]
                rw [hClm_mp hb1]
                simp (maxSteps := 1000000) (disch := omega) only [go_sem, wrapI, wrapB, upd_is, upd_not, Nat.reduceAdd, Nat.reduceSub, Nat.reduceMul, Nat.reduceLeDiff, Nat.reduceEqDiff, Int.reduceAdd, Int.reduceSub, Int.reduceMul, Int.reduceNeg, Int.reduceLT, Int.reduceLE, Int.reduceEq, Int.reduceToNat, reduceCtorEq, reduceIte, Nat.zero_add, Nat.add_zero, *]
                intros
                refine LOOP_listM t.indexes (fun i s σ' n' => (∃ a b c, s = [a, b, c, .sc (.bool false), .sc (.int .i64 i)]) ∧ ixsF t.columns.length [] t.indexes = ixsF t.columns.length ((t.indexes.take i).map (·.name)) (t.indexes.drop i) ∧ σ' 16 = some (.m (setOf ((t.indexes.take i).map (·.name))) true)) (.refl ⟨⟨_, _, _, rfl⟩, rfl, upd_is rfl⟩) ?_ ?_
                · rintro i c K s' σ' n3 hx hi hi' hn3 ⟨⟨u1, u2, u3, rfl⟩, hw, hb1⟩ hK
                  have HK := Lib.hid hK; clear hK
                  have hc : c ∈ t.indexes := List.mem_of_getElem? hx
                  have HCN' := Lib.hid (HXN.out c hc)
                  have HXK' := Lib.hid (HXK.out c hc)
                  have HRA' := Lib.hid (HRA.out c hc)
                  have hw2 : ixsF t.columns.length ((t.indexes.take i).map (·.name)) (t.indexes.drop i) = if c.name ∈ (t.indexes.take i).map (·.name) ∨ nameL c.name = false ∨ ¬ (0 ≤ c.at_ ∧ c.at_ < t.columns.length) then false else ixsF t.columns.length ((t.indexes.take i).map (·.name) ++ [c.name]) (t.indexes.drop (i + 1)) := by
                    rw [drop_at hx, ixsF]
                  have hnx : (t.indexes.take (i + 1)).map (·.name) = (t.indexes.take i).map (·.name) ++ [c.name] := by
                    rw [List.take_add_one, hx, List.map_append]; rfl
                  have HNX := Lib.hid hnx; clear hnx
                  generalize (t.indexes.take i).map (·.name) = nm at hw hw2 hb1 HNX
                  have HW := Lib.hid (hw.trans hw2); clear hw hw2
                  have no : (c.name ∈ nm ∨ nameL c.name = false ∨ ¬ (0 ≤ c.at_ ∧ c.at_ < t.columns.length)) → ∀ σ m, R (.ret (.sc (.bool false))) σ m := by
                    intro h σ m
                    rw [← HR.out, HGO.out, HW.out, if_pos h]; exact RC_ret rfl rfl
                  have NO := Lib.hid no; clear no
                  simp (maxSteps := 1000000) (disch := omega) only [lb_catalog_May3, encX, go_sem, wrapI, wrapB, upd_is, upd_not, Nat.reduceAdd, Nat.reduceSub, Nat.reduceMul, Nat.reduceLeDiff, Nat.reduceEqDiff, Int.reduceAdd, Int.reduceSub, Int.reduceMul, Int.reduceNeg, Int.reduceLT, Int.reduceLE, Int.reduceEq, Int.reduceToNat, reduceCtorEq, reduceIte, Nat.zero_add, Nat.add_zero, *]
                  rw [aLkp_set (show _ from (by simp (disch := omega) only [upd_not]; exact hb1))]
                  by_cases g1 : c.name ∈ nm
                  · have hd : decide (c.name ∈ nm) = true := decide_eq_true g1
                    have G1 := Lib.hid g1; clear g1
                    simp (maxSteps := 1000000) (disch := omega) only [hd, go_sem, wrapI, wrapB, upd_is, upd_not, Nat.reduceAdd, Nat.reduceSub, Nat.reduceMul, Nat.reduceLeDiff, Nat.reduceEqDiff, Int.reduceAdd, Int.reduceSub, Int.reduceMul, Int.reduceNeg, Int.reduceLT, Int.reduceLE, Int.reduceEq, Int.reduceToNat, reduceCtorEq, reduceIte, Nat.zero_add, Nat.add_zero, *]
                    exact NO.out (.inl G1.out) _ _
                  · have hd : decide (c.name ∈ nm) = false := decide_eq_false g1
                    have G1 := Lib.hid g1; clear g1
                    simp (maxSteps := 1000000) (disch := omega) only [hd, go_sem, wrapI, wrapB, upd_is, upd_not, Nat.reduceAdd, Nat.reduceSub, Nat.reduceMul, Nat.reduceLeDiff, Nat.reduceEqDiff, Int.reduceAdd, Int.reduceSub, Int.reduceMul, Int.reduceNeg, Int.reduceLT, Int.reduceLE, Int.reduceEq, Int.reduceToNat, reduceCtorEq, reduceIte, Nat.zero_add, Nat.add_zero, *]
                    cases g2 : nameL c.name with
                    | false =>
                      rw [g2] at HCN'
                      refine CALL_con0 HCN'.out rfl ?_
                      simp (maxSteps := 1000000) (disch := omega) only [go_sem, wrapI, wrapB, upd_is, upd_not, Nat.reduceAdd, Nat.reduceSub, Nat.reduceMul, Nat.reduceLeDiff, Nat.reduceEqDiff, Int.reduceAdd, Int.reduceSub, Int.reduceMul, Int.reduceNeg, Int.reduceLT, Int.reduceLE, Int.reduceEq, Int.reduceToNat, reduceCtorEq, reduceIte, Nat.zero_add, Nat.add_zero, *]
                      exact NO.out (.inr (.inl g2)) _ _
                    | true =>
                      rw [g2] at HCN'
                      refine CALL_con0 HCN'.out rfl ?_
                      by_cases g3 : 0 ≤ c.at_ ∧ c.at_ < t.columns.length
                      · obtain ⟨g4, g5⟩ := g3
                        have hwk : IntKind.u64.wrap c.at_ = c.at_ := by rw [HXK'.out, if_pos g4]
                        have hwn := HCo.out
                        have g6 : ¬ (t.columns.length : Int) ≤ c.at_ := by omega
                        simp (maxSteps := 1000000) (disch := omega) only [go_sem, wrapI, wrapB, upd_is, upd_not, Nat.reduceAdd, Nat.reduceSub, Nat.reduceMul, Nat.reduceLeDiff, Nat.reduceEqDiff, Int.reduceAdd, Int.reduceSub, Int.reduceMul, Int.reduceNeg, Int.reduceLT, Int.reduceLE, Int.reduceEq, Int.reduceToNat, reduceCtorEq, reduceIte, Nat.zero_add, Nat.add_zero, *]
                        rw [hMup_set (show _ from (by simp (disch := omega) only [upd_not]; exact hb1)), if_neg G1.out]
                        simp (maxSteps := 1000000) (disch := omega) only [go_sem, wrapI, wrapB, upd_is, upd_not, Nat.reduceAdd, Nat.reduceSub, Nat.reduceMul, Nat.reduceLeDiff, Nat.reduceEqDiff, Int.reduceAdd, Int.reduceSub, Int.reduceMul, Int.reduceNeg, Int.reduceLT, Int.reduceLE, Int.reduceEq, Int.reduceToNat, reduceCtorEq, reduceIte, Nat.zero_add, Nat.add_zero, *]
                        refine HK.out _ _ _ (.refl ⟨⟨_, _, _, rfl⟩, ?_, ?_⟩)
                        · rw [HNX.out, HW.out, if_neg]
                          rintro (h | h | h)
                          · exact G1.out h
                          · rw [g2] at h; cases h
                          · exact h ⟨g4, g5⟩
                        · rw [HNX.out]; simp only [upd_is]
                      · have hwk : (t.columns.length : Int) ≤ IntKind.u64.wrap c.at_ := by
                          have := HRA'.out
                          unfold rng at this
                          rw [HXK'.out]; split <;> omega
                        have hwn := HCo.out
                        simp (maxSteps := 1000000) (disch := omega) only [go_sem, wrapI, wrapB, upd_is, upd_not, Nat.reduceAdd, Nat.reduceSub, Nat.reduceMul, Nat.reduceLeDiff, Nat.reduceEqDiff, Int.reduceAdd, Int.reduceSub, Int.reduceMul, Int.reduceNeg, Int.reduceLT, Int.reduceLE, Int.reduceEq, Int.reduceToNat, reduceCtorEq, reduceIte, Nat.zero_add, Nat.add_zero, *]
                        exact NO.out (.inr (.inr g3)) _ _
                · rintro K s' σ' n3 hn3 ⟨⟨u1, u2, u3, rfl⟩, hw, hb1⟩
                  have hw' : ixsF t.columns.length [] t.indexes = true := by
                    rw [hw, List.drop_length]; rfl
                  rw [hw'] at HGO
                  clear hw hw'
                  simp (maxSteps := 1000000) (disch := omega) only [lb_catalog_May3, Int.lt_irrefl, go_sem, wrapI, wrapB, upd_is, upd_not, Nat.reduceAdd, Nat.reduceSub, Nat.reduceMul, Nat.reduceLeDiff, Nat.reduceEqDiff, Int.reduceAdd, Int.reduceSub, Int.reduceMul, Int.reduceNeg, Int.reduceLT, Int.reduceLE, Int.reduceEq, Int.reduceToNat, reduceCtorEq, reduceIte, Nat.zero_add, Nat.add_zero, *]
                  rw [← HR.out, HGO.out]; exact RC_ret rfl rfl
          · have hwk : (t.columns.length : Int) ≤ IntKind.u64.wrap t.key := by
              have := HRK.out
              unfold rng at this
              rw [HK.out]; split <;> omega
            simp (maxSteps := 1000000) (disch := omega) only [sh_catalog_May, encT, go_sem, wrapI, wrapB, upd_is, upd_not, Nat.reduceAdd, Nat.reduceSub, Nat.reduceMul, Nat.reduceLeDiff, Nat.reduceEqDiff, Int.reduceAdd, Int.reduceSub, Int.reduceMul, Int.reduceNeg, Int.reduceLT, Int.reduceLE, Int.reduceEq, Int.reduceToNat, reduceCtorEq, reduceIte, Nat.zero_add, Nat.add_zero, *]
            intro _
            refine CALL_con0 HN.out rfl ?_
            simp (maxSteps := 1000000) (disch := omega) only [go_sem, wrapI, wrapB, upd_is, upd_not, Nat.reduceAdd, Nat.reduceSub, Nat.reduceMul, Nat.reduceLeDiff, Nat.reduceEqDiff, Int.reduceAdd, Int.reduceSub, Int.reduceMul, Int.reduceNeg, Int.reduceLT, Int.reduceLE, Int.reduceEq, Int.reduceToNat, reduceCtorEq, reduceIte, Nat.zero_add, Nat.add_zero, *]
            exact NO.out _ _ (.inr (.inr (.inr (.inr (.inl h5)))))
end Go.Proofs.Ytlhnncmflnjinaa
