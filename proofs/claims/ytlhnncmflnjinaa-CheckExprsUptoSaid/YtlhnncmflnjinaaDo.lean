/- The document's Column, place, Place, fits, kind. -/
import Derived.Test.YtlhnncmflnjinaaDb
import Derived.Test.YtlhnncmflnjinaaDe
set_option linter.unusedSimpArgs false
set_option linter.unusedVariables false
set_option maxRecDepth 100000
namespace Go.Proofs.Ytlhnncmflnjinaa
open Go Go.RowKit Am

theorem colF_hit {cs : List Cl} {name : Tx} {i : Nat} {c : Cl} (hx : cs[i]? = some c) (hc : c.name = name) (hno : ∀ (j : Nat) (x : Cl), j < i → cs[j]? = some x → x.name ≠ name) : colF cs name = ((i : Int), 0) := by
  have hi : i < cs.length := (List.getElem?_eq_some_iff.1 hx).1
  have hix : ixL (fun c => decide (c.name = name)) cs = i := by
    refine ixL_at _ _ i hi (fun j hj => decide_eq_false (hno j _ hj (List.getElem?_eq_getElem (by omega)))) ?_
    have : cs[i] = c := by rw [List.getElem?_eq_getElem hi] at hx; cases hx; rfl
    rw [this]; exact decide_eq_true hc
  unfold colF
  rw [hix, if_neg (by omega)]
theorem colF_miss {cs : List Cl} {name : Tx} (hno : ∀ (j : Nat) (x : Cl), cs[j]? = some x → x.name ≠ name) : colF cs name = (0, 94) := by
  have hix : ixL (fun c => decide (c.name = name)) cs = -1 := by
    unfold ixL
    rw [if_neg]
    intro h
    obtain ⟨x, hx, hq⟩ := List.any_eq_true.1 h
    obtain ⟨j, hj, rfl⟩ := List.getElem_of_mem hx
    exact hno j _ (List.getElem?_eq_getElem hj) (of_decide_eq_true hq)
  unfold colF
  rw [hix, if_pos (by omega)]
set_option maxHeartbeats 4000000 in
theorem rfColumn_con (t : Tb) (name : Tx) : Con Try.prog 83 [.ag (encT t), .s name] (.ret (.tp [.sc (.int .i64 (colF t.columns name).1), .sc (.int .i64 (colF t.columns name).2)])) := by
  refine con_of (by_ref06_Column ?_)
  generalize hR : RC _ = R
  have HR := Lib.hid hR; clear hR
  simp (maxSteps := 1000000) (disch := omega) only [sh_ref06_Column, encT, go_sem, wrapI, wrapB, upd_is, upd_not, Nat.reduceAdd, Nat.reduceSub, Nat.reduceMul, Nat.reduceLeDiff, Nat.reduceEqDiff, Int.reduceAdd, Int.reduceSub, Int.reduceMul, Int.reduceNeg, Int.reduceLT, Int.reduceLE, Int.reduceEq, Int.reduceToNat, reduceCtorEq, reduceIte, Nat.zero_add, Nat.add_zero, *]
  refine LOOP_listM t.columns (fun i s σ' n' => (∃ a b c d, s = [a, b, c, d, .sc (.int .i64 i)]) ∧ σ' 0 = some (.c ⟨4, [[.s t.name, .tr (t.columns.map encC), .sc (.int .i64 t.key), .tr (t.indexes.map encX)]], true, false⟩) ∧ ∀ j x, j < i → t.columns[j]? = some x → x.name ≠ name) (.refl ⟨⟨_, _, _, _, rfl⟩, rfl, fun j x h => by omega⟩) ?_ ?_
  · rintro i x K s' σ' n2 hx hi hi' hn ⟨⟨a, b, c, d, rfl⟩, hb0, hno⟩ hK
    have HK := Lib.hid hK; clear hK
    have HNO := Lib.hid hno; clear hno
    by_cases h1 : x.name = name
    · have HF := Lib.hid (colF_hit hx h1 HNO.out)
      simp (maxSteps := 1000000) (disch := omega) only [lb_ref06_Column1, encC, go_sem, wrapI, wrapB, upd_is, upd_not, Nat.reduceAdd, Nat.reduceSub, Nat.reduceMul, Nat.reduceLeDiff, Nat.reduceEqDiff, Int.reduceAdd, Int.reduceSub, Int.reduceMul, Int.reduceNeg, Int.reduceLT, Int.reduceLE, Int.reduceEq, Int.reduceToNat, reduceCtorEq, reduceIte, Nat.zero_add, Nat.add_zero, *]
      intro _
      rw [← HR.out, HF.out]; exact RC_ret rfl rfl
    · simp (maxSteps := 1000000) (disch := omega) only [lb_ref06_Column1, encC, go_sem, wrapI, wrapB, upd_is, upd_not, Nat.reduceAdd, Nat.reduceSub, Nat.reduceMul, Nat.reduceLeDiff, Nat.reduceEqDiff, Int.reduceAdd, Int.reduceSub, Int.reduceMul, Int.reduceNeg, Int.reduceLT, Int.reduceLE, Int.reduceEq, Int.reduceToNat, reduceCtorEq, reduceIte, Nat.zero_add, Nat.add_zero, *]
      intro _
      simp (disch := omega) only [wrapI]
      refine HK.out _ _ _ (.refl ⟨⟨_, _, _, _, rfl⟩, hb0, fun j y hj hy => ?_⟩)
      by_cases hji : j = i
      · subst hji; rw [hx] at hy; cases hy; exact h1
      · exact HNO.out j y (by omega) hy
  · rintro K s' σ' n2 hn ⟨⟨a, b, c, d, rfl⟩, hb0, hno⟩
    have HF := Lib.hid (colF_miss (fun j x hx => hno j x (List.getElem?_eq_some_iff.1 hx).1 hx)); clear hno
    simp (maxSteps := 1000000) (disch := omega) only [lb_ref06_Column1, Int.lt_irrefl, go_sem, wrapI, wrapB, upd_is, upd_not, Nat.reduceAdd, Nat.reduceSub, Nat.reduceMul, Nat.reduceLeDiff, Nat.reduceEqDiff, Int.reduceAdd, Int.reduceSub, Int.reduceMul, Int.reduceNeg, Int.reduceLT, Int.reduceLE, Int.reduceEq, Int.reduceToNat, reduceCtorEq, reduceIte, Nat.zero_add, Nat.add_zero, *]
    intro _
    rw [← HR.out, HF.out]; exact RC_ret rfl rfl
theorem rfPlace_con (n : Int) : Con Try.prog 101 [.sc (.int .i64 n)] (.ret (.ag (encE (.mk 1 1 n [] [] [] [])))) := by
  refine con_of (by_ref07_Place ?_)
  simp (maxSteps := 1000000) (disch := omega) only [sh_ref07_Place, go_sem, wrapI, wrapB, upd_is, upd_not, Nat.reduceAdd, Nat.reduceSub, Nat.reduceMul, Nat.reduceLeDiff, Nat.reduceEqDiff, Int.reduceAdd, Int.reduceSub, Int.reduceMul, Int.reduceNeg, Int.reduceLT, Int.reduceLE, Int.reduceEq, Int.reduceToNat, reduceCtorEq, reduceIte, Nat.zero_add, Nat.add_zero, *]
  exact RC_ret rfl rfl
theorem rfFits_con (k asked : Int) : Con Try.prog 139 [.sc (.int .i64 k), .sc (.int .i64 asked)] (.ret (.sc (.bool (decide (k = 0) || decide (k = asked))))) := by
  refine con_of (by_ref07_fits ?_)
  by_cases h1 : k = 0
  · simp (maxSteps := 1000000) (disch := omega) only [sh_ref07_fits, go_sem, wrapI, wrapB, upd_is, upd_not, Nat.reduceAdd, Nat.reduceSub, Nat.reduceMul, Nat.reduceLeDiff, Nat.reduceEqDiff, Int.reduceAdd, Int.reduceSub, Int.reduceMul, Int.reduceNeg, Int.reduceLT, Int.reduceLE, Int.reduceEq, Int.reduceToNat, reduceCtorEq, reduceIte, Nat.zero_add, Nat.add_zero, *]
    exact RC_ret rfl (by first | rfl | simp)
  · by_cases h2 : k = asked
    · subst h2
      simp (maxSteps := 1000000) (disch := omega) only [sh_ref07_fits, decide_true, go_sem, wrapI, wrapB, upd_is, upd_not, Nat.reduceAdd, Nat.reduceSub, Nat.reduceMul, Nat.reduceLeDiff, Nat.reduceEqDiff, Int.reduceAdd, Int.reduceSub, Int.reduceMul, Int.reduceNeg, Int.reduceLT, Int.reduceLE, Int.reduceEq, Int.reduceToNat, reduceCtorEq, reduceIte, Nat.zero_add, Nat.add_zero, *]
      exact RC_ret rfl (by first | rfl | simp)
    · simp (maxSteps := 1000000) (disch := omega) only [sh_ref07_fits, go_sem, wrapI, wrapB, upd_is, upd_not, Nat.reduceAdd, Nat.reduceSub, Nat.reduceMul, Nat.reduceLeDiff, Nat.reduceEqDiff, Int.reduceAdd, Int.reduceSub, Int.reduceMul, Int.reduceNeg, Int.reduceLT, Int.reduceLE, Int.reduceEq, Int.reduceToNat, reduceCtorEq, reduceIte, Nat.zero_add, Nat.add_zero, *]
      exact RC_ret rfl (by first | rfl | simp [h1, h2])
def tripEnd3 : Except Int (Int × Int) → AEnd
  | .ok p => .ret (.tp [.sc (.int .i64 p.1), .sc (.int .i64 p.2), .sc (.int .i64 0)])
  | .error x => .ret (.tp [.sc (.int .i64 0), .sc (.int .i64 0), .sc (.int .i64 x)])
set_option maxHeartbeats 8000000 in
theorem rfplace_con (ts : List Tb) (e : Ep) (hts : ts.length ≤ 2) (hc : ∀ t ∈ ts, t.columns.length ≤ 1048576) : Con Try.prog 100 [.tr (ts.map encT), .ag (encE e)] (tripEnd3 (placeE e.table e.name ts)) := by
  refine con_of (by_ref07_place ?_)
  generalize hR : RC _ = R
  have HR := Lib.hid hR; clear hR
  have HC := Lib.hid hc; clear hc
  simp (maxSteps := 1000000) (disch := omega) only [sh_ref07_place, encE_eq, go_sem, wrapI, wrapB, upd_is, upd_not, Nat.reduceAdd, Nat.reduceSub, Nat.reduceMul, Nat.reduceLeDiff, Nat.reduceEqDiff, Int.reduceAdd, Int.reduceSub, Int.reduceMul, Int.reduceNeg, Int.reduceLT, Int.reduceLE, Int.reduceEq, Int.reduceToNat, reduceCtorEq, reduceIte, Nat.zero_add, Nat.add_zero, *]
  refine LOOP_listM ts (fun i s σ' _ => σ' 0 = some (.c ⟨7, [encE e], true, false⟩) ∧ (0 ≤ (plAll e.table e.name (ts.take i)).base ∧ (plAll e.table e.name (ts.take i)).base ≤ i * 1048576 ∧ 0 ≤ (plAll e.table e.name (ts.take i)).found ∧ (plAll e.table e.name (ts.take i)).found ≤ i) ∧ ∃ a b c d f g at_, (0 < (plAll e.table e.name (ts.take i)).found → at_ = (plAll e.table e.name (ts.take i)).at_) ∧ s = [a, b, c, .sc (.bool (plAll e.table e.name (ts.take i)).known), d, f, g, .sc (.int .i64 (plAll e.table e.name (ts.take i)).found), .sc (.int .i64 at_), .sc (.int .i64 (plAll e.table e.name (ts.take i)).kind), .sc (.int .i64 (plAll e.table e.name (ts.take i)).base), .sc (.int .i64 i)]) (.refl ⟨by rw [upd_is rfl, encE_eq], by simp [plAll], _, _, _, _, _, _, -1, fun h => by simp [plAll] at h, rfl⟩) ?_ ?_
  · rintro i t K s' σ' n2 hx hi hi' hn ⟨hbx, ⟨hb0, hb1, hf0, hf1⟩, a, b, c, d, f, g, at_, hat, rfl⟩ hK
    rw [encE_eq] at hbx
    have HK := Lib.hid hK; clear hK
    have HN := Lib.hid (plAll_take (table := e.table) (name := e.name) hx)
    have hct := HC.out t (List.mem_of_getElem? hx)
    generalize plAll e.table e.name (ts.take i) = p at *
    have HAT := Lib.hid hat; clear hat
    have fin : ∀ (a b c d f g : AV) (q : Pl) (at2 : Int) (σ2 : Hp) (n2 : Nat), q = plStep e.table e.name p t → (0 < q.found → at2 = q.at_) → σ2 0 = some (.c ⟨7, [encE e], true, false⟩) → 0 ≤ q.base ∧ q.base ≤ (i + 1 : Nat) * 1048576 ∧ 0 ≤ q.found ∧ q.found ≤ (i + 1 : Nat) →
        K [a, b, c, .sc (.bool q.known), d, f, g, .sc (.int .i64 q.found), .sc (.int .i64 at2), .sc (.int .i64 q.kind), .sc (.int .i64 q.base), .sc (.int .i64 (i + 1 : Nat))] σ2 n2 := by
      intro a b c d f g q at2 σ2 n2 hq ha2 h0 hbd
      refine HK.out _ _ _ (.refl ⟨h0, ?_, a, b, c, d, f, g, at2, ?_, ?_⟩)
      · rw [HN.out, ← hq]; exact hbd
      · rw [HN.out, ← hq]; exact ha2
      · rw [HN.out, ← hq]
    have FIN := Lib.hid fin; clear fin
    have hbx' : σ' 0 = some (.c ⟨7, [encE e], true, false⟩) := by rw [encE_eq]; exact hbx
    have HBX := Lib.hid hbx'; clear hbx'
    by_cases h1 : e.table = []
    · simp (maxSteps := 1000000) (disch := omega) only [lb_ref07_place3, encT, go_sem, wrapI, wrapB, upd_is, upd_not, Nat.reduceAdd, Nat.reduceSub, Nat.reduceMul, Nat.reduceLeDiff, Nat.reduceEqDiff, Int.reduceAdd, Int.reduceSub, Int.reduceMul, Int.reduceNeg, Int.reduceLT, Int.reduceLE, Int.reduceEq, Int.reduceToNat, reduceCtorEq, reduceIte, Nat.zero_add, Nat.add_zero, *]
      intro _
      refine CALL_con0 (rfColumn_con t e.name) rfl ?_
      by_cases h2 : (colF t.columns e.name).2 = 0
      · obtain ⟨k, cl, hk, hcl, hklt⟩ := colF_ok h2
        rw [hk]
        simp (maxSteps := 1000000) (disch := omega) only [encC, go_sem, wrapI, wrapB, upd_is, upd_not, Nat.reduceAdd, Nat.reduceSub, Nat.reduceMul, Nat.reduceLeDiff, Nat.reduceEqDiff, Int.reduceAdd, Int.reduceSub, Int.reduceMul, Int.reduceNeg, Int.reduceLT, Int.reduceLE, Int.reduceEq, Int.reduceToNat, reduceCtorEq, reduceIte, Nat.zero_add, Nat.add_zero, *]
        intro n3 hn3 _
        refine FIN.out _ _ _ _ _ _ ⟨p.found + 1, true, p.base + k, cl.kind, p.base + t.columns.length⟩ _ _ _ ?_ (fun _ => rfl) ?_ ?_
        · simp [plStep, h1, h2, hk, kindAt, hcl]
        · rw [upd_not (by omega), upd_not (by omega)]; exact HBX.out
        · simp only; omega
      · simp (maxSteps := 1000000) (disch := omega) only [go_sem, wrapI, wrapB, upd_is, upd_not, Nat.reduceAdd, Nat.reduceSub, Nat.reduceMul, Nat.reduceLeDiff, Nat.reduceEqDiff, Int.reduceAdd, Int.reduceSub, Int.reduceMul, Int.reduceNeg, Int.reduceLT, Int.reduceLE, Int.reduceEq, Int.reduceToNat, reduceCtorEq, reduceIte, Nat.zero_add, Nat.add_zero, *]
        intros
        refine FIN.out _ _ _ _ _ _ ⟨p.found, true, p.at_, p.kind, p.base + t.columns.length⟩ _ _ _ ?_ HAT.out ?_ ?_
        · simp [plStep, h1, h2]
        · rw [upd_not (by omega), upd_not (by omega)]; exact HBX.out
        · simp only; omega
    · by_cases h3 : e.table = t.name
      · have h1' : ¬ t.name = [] := h3 ▸ h1
        cases h4 : p.known with
        | true =>
          simp (maxSteps := 1000000) (disch := omega) only [lb_ref07_place3, encT, go_sem, wrapI, wrapB, upd_is, upd_not, Nat.reduceAdd, Nat.reduceSub, Nat.reduceMul, Nat.reduceLeDiff, Nat.reduceEqDiff, Int.reduceAdd, Int.reduceSub, Int.reduceMul, Int.reduceNeg, Int.reduceLT, Int.reduceLE, Int.reduceEq, Int.reduceToNat, reduceCtorEq, reduceIte, Nat.zero_add, Nat.add_zero, *]
          intros
          refine FIN.out _ _ _ _ _ _ ⟨p.found, true, p.at_, p.kind, p.base + t.columns.length⟩ _ _ _ ?_ HAT.out ?_ ?_
          · rw [plStep, if_neg (by simp [h1, h4]), h4]
          · rw [upd_not (by omega), upd_not (by omega)]; exact HBX.out
          · simp only; omega
        | false =>
          have HF := Lib.hid (rfColumn_con t e.name)
          simp (maxSteps := 1000000) (disch := omega) only [lb_ref07_place3, encT, go_sem, wrapI, wrapB, upd_is, upd_not, Nat.reduceAdd, Nat.reduceSub, Nat.reduceMul, Nat.reduceLeDiff, Nat.reduceEqDiff, Int.reduceAdd, Int.reduceSub, Int.reduceMul, Int.reduceNeg, Int.reduceLT, Int.reduceLE, Int.reduceEq, Int.reduceToNat, reduceCtorEq, reduceIte, Nat.zero_add, Nat.add_zero, *]
          intro _
          refine CALL_con0 HF.out rfl ?_
          by_cases h2 : (colF t.columns e.name).2 = 0
          · obtain ⟨k, cl, hk, hcl, hklt⟩ := colF_ok h2
            rw [hk]
            simp (maxSteps := 1000000) (disch := omega) only [encC, go_sem, wrapI, wrapB, upd_is, upd_not, Nat.reduceAdd, Nat.reduceSub, Nat.reduceMul, Nat.reduceLeDiff, Nat.reduceEqDiff, Int.reduceAdd, Int.reduceSub, Int.reduceMul, Int.reduceNeg, Int.reduceLT, Int.reduceLE, Int.reduceEq, Int.reduceToNat, reduceCtorEq, reduceIte, Nat.zero_add, Nat.add_zero, *]
            intro n3 hn3 _
            refine FIN.out _ _ _ _ _ _ ⟨p.found + 1, true, p.base + k, cl.kind, p.base + t.columns.length⟩ _ _ _ ?_ (fun _ => rfl) ?_ ?_
            · rw [plStep, if_pos (.inr ⟨h3.symm, h4⟩), if_pos h2, hk]; simp [kindAt, hcl]
            · rw [upd_not (by omega), upd_not (by omega)]; exact HBX.out
            · simp only; omega
          · simp (maxSteps := 1000000) (disch := omega) only [go_sem, wrapI, wrapB, upd_is, upd_not, Nat.reduceAdd, Nat.reduceSub, Nat.reduceMul, Nat.reduceLeDiff, Nat.reduceEqDiff, Int.reduceAdd, Int.reduceSub, Int.reduceMul, Int.reduceNeg, Int.reduceLT, Int.reduceLE, Int.reduceEq, Int.reduceToNat, reduceCtorEq, reduceIte, Nat.zero_add, Nat.add_zero, *]
            intro _
            refine FIN.out _ _ _ _ _ _ ⟨p.found, true, p.at_, p.kind, p.base + t.columns.length⟩ _ _ _ ?_ HAT.out ?_ ?_
            · rw [plStep, if_pos (.inr ⟨h3.symm, h4⟩), if_neg h2]
            · rw [upd_not (by omega), upd_not (by omega)]; exact HBX.out
            · simp only; omega
      · simp (maxSteps := 1000000) (disch := omega) only [lb_ref07_place3, encT, go_sem, wrapI, wrapB, upd_is, upd_not, Nat.reduceAdd, Nat.reduceSub, Nat.reduceMul, Nat.reduceLeDiff, Nat.reduceEqDiff, Int.reduceAdd, Int.reduceSub, Int.reduceMul, Int.reduceNeg, Int.reduceLT, Int.reduceLE, Int.reduceEq, Int.reduceToNat, reduceCtorEq, reduceIte, Nat.zero_add, Nat.add_zero, *]
        intros
        refine FIN.out _ _ _ _ _ _ ⟨p.found, p.known, p.at_, p.kind, p.base + t.columns.length⟩ _ _ _ ?_ HAT.out ?_ ?_
        · rw [plStep, if_neg (by rintro (h | ⟨h, _⟩); exact h1 h; exact h3 h.symm)]
        · rw [upd_not (by omega), upd_not (by omega)]; exact HBX.out
        · simp only; omega
  · rintro K s' σ' n2 hn ⟨hbx, ⟨hb0, hb1, hf0, hf1⟩, a, b, c, d, f, g, at_, hat, rfl⟩
    rw [List.take_length] at *
    have HF : RowKit.Hid (placeE e.table e.name ts = if (plAll e.table e.name ts).known = false then .error 93 else if (plAll e.table e.name ts).found = 1 then .ok ((plAll e.table e.name ts).at_, (plAll e.table e.name ts).kind) else .error 94) := Lib.hid rfl
    generalize plAll e.table e.name ts = p at *
    cases h1 : p.known with
    | false =>
      simp (maxSteps := 1000000) (disch := omega) only [lb_ref07_place3, Int.lt_irrefl, go_sem, wrapI, wrapB, upd_is, upd_not, Nat.reduceAdd, Nat.reduceSub, Nat.reduceMul, Nat.reduceLeDiff, Nat.reduceEqDiff, Int.reduceAdd, Int.reduceSub, Int.reduceMul, Int.reduceNeg, Int.reduceLT, Int.reduceLE, Int.reduceEq, Int.reduceToNat, reduceCtorEq, reduceIte, Nat.zero_add, Nat.add_zero, *]
      intro _
      rw [← HR.out, HF.out, if_pos h1]; exact RC_ret rfl rfl
    | true =>
      by_cases h2 : p.found = 1
      · have ha := hat (by omega)
        simp (maxSteps := 1000000) (disch := omega) only [lb_ref07_place3, Int.lt_irrefl, go_sem, wrapI, wrapB, upd_is, upd_not, Nat.reduceAdd, Nat.reduceSub, Nat.reduceMul, Nat.reduceLeDiff, Nat.reduceEqDiff, Int.reduceAdd, Int.reduceSub, Int.reduceMul, Int.reduceNeg, Int.reduceLT, Int.reduceLE, Int.reduceEq, Int.reduceToNat, reduceCtorEq, reduceIte, Nat.zero_add, Nat.add_zero, *]
        intro _
        rw [← HR.out, HF.out, if_neg (by simp [h1]), if_pos h2]; exact RC_ret rfl rfl
      · clear hat
        simp (maxSteps := 1000000) (disch := omega) only [lb_ref07_place3, Int.lt_irrefl, go_sem, wrapI, wrapB, upd_is, upd_not, Nat.reduceAdd, Nat.reduceSub, Nat.reduceMul, Nat.reduceLeDiff, Nat.reduceEqDiff, Int.reduceAdd, Int.reduceSub, Int.reduceMul, Int.reduceNeg, Int.reduceLT, Int.reduceLE, Int.reduceEq, Int.reduceToNat, reduceCtorEq, reduceIte, Nat.zero_add, Nat.add_zero, *]
        intro _
        rw [← HR.out, HF.out, if_neg (by simp [h1]), if_neg h2]; exact RC_ret rfl rfl
end Go.Proofs.Ytlhnncmflnjinaa
set_option maxRecDepth 100000
namespace Go.Proofs.Ytlhnncmflnjinaa
open Go Go.RowKit Am

def twoEnd : Except Int Int → AEnd
  | .ok k => .ret (.tp [.sc (.int .i64 k), .sc (.int .i64 0)])
  | .error x => .ret (.tp [.sc (.int .i64 0), .sc (.int .i64 x)])
theorem fit1 (x : Int) : fitOk 1 x = (decide (x = 0) || decide (x = 1)) := by simp [fitOk]
theorem fit2 (x : Int) : fitOk 2 x = (decide (x = 0) || decide (x = 2)) := by simp [fitOk]
set_option maxHeartbeats 16000000 in
theorem rfKind_con (op : Int) (l : List Int) (h0 : 2 ≤ op ∧ op ≤ 22) (hl : (argsN op).1 = (l.length : Int)) : Con Try.prog 102 [.sc (.int .i64 op), .tr (l.map encI)] (twoEnd (kindE op l)) := by
  refine con_of (by_ref07_kind ?_)
  have hop : op = 2 ∨ op = 20 ∨ op = 3 ∨ op = 4 ∨ op = 5 ∨ op = 6 ∨ op = 7 ∨ op = 14 ∨ op = 15 ∨ op = 16 ∨ op = 17 ∨ op = 18 ∨ op = 19 ∨ op = 21 ∨ op = 22 ∨ op = 8 ∨ op = 9 ∨ op = 10 ∨ op = 11 ∨ op = 12 ∨ op = 13 := by omega
  clear h0
  rcases hop with rfl | rfl | rfl | rfl | rfl | rfl | rfl | rfl | rfl | rfl | rfl | rfl | rfl | rfl | rfl | rfl | rfl | rfl | rfl | rfl | rfl
  iterate 2
    · obtain ⟨x, rfl⟩ : ∃ x, l = [x] := by
        match l, hl with
        | [x], _ => exact ⟨x, rfl⟩
        | [], h => simp [argsN] at h
        | _ :: _ :: _, h => simp [argsN] at h; omega
      clear hl
      generalize hR : RC _ = R
      have HR := Lib.hid hR; clear hR
      simp (maxSteps := 1000000) only [sh_ref07_kind, encI, go_sem, Nat.reduceAdd, Nat.reduceSub, Nat.reduceMul, Nat.reduceLeDiff, Nat.reduceEqDiff, Int.reduceAdd, Int.reduceSub, Int.reduceMul, Int.reduceNeg, Int.reduceLT, Int.reduceLE, Int.reduceEq, Int.reduceToNat, reduceCtorEq, reduceIte, Nat.zero_add, Nat.add_zero, *]
      refine CALL_con0 (rfFits_con x 1) rfl ?_
      cases hf : (decide (x = 0) || decide (x = 1))
      all_goals
        simp (maxSteps := 1000000) only [go_sem, Nat.reduceAdd, Nat.reduceSub, Nat.reduceMul, Nat.reduceLeDiff, Nat.reduceEqDiff, Int.reduceAdd, Int.reduceSub, Int.reduceMul, Int.reduceNeg, Int.reduceLT, Int.reduceLE, Int.reduceEq, Int.reduceToNat, reduceCtorEq, reduceIte, Nat.zero_add, Nat.add_zero, *]
        rw [← HR.out]; exact RC_ret rfl (by simp [kindE, fit1, hf, twoEnd])
  · obtain ⟨x, rfl⟩ : ∃ x, l = [x] := by
      match l, hl with
      | [x], _ => exact ⟨x, rfl⟩
      | [], h => simp [argsN] at h
      | _ :: _ :: _, h => simp [argsN] at h; omega
    clear hl
    generalize hR : RC _ = R
    have HR := Lib.hid hR; clear hR
    simp (maxSteps := 1000000) only [sh_ref07_kind, encI, go_sem, Nat.reduceAdd, Nat.reduceSub, Nat.reduceMul, Nat.reduceLeDiff, Nat.reduceEqDiff, Int.reduceAdd, Int.reduceSub, Int.reduceMul, Int.reduceNeg, Int.reduceLT, Int.reduceLE, Int.reduceEq, Int.reduceToNat, reduceCtorEq, reduceIte, Nat.zero_add, Nat.add_zero, *]
    refine CALL_con0 (rfFits_con x 2) rfl ?_
    cases hf : (decide (x = 0) || decide (x = 2))
    all_goals
      simp (maxSteps := 1000000) only [go_sem, Nat.reduceAdd, Nat.reduceSub, Nat.reduceMul, Nat.reduceLeDiff, Nat.reduceEqDiff, Int.reduceAdd, Int.reduceSub, Int.reduceMul, Int.reduceNeg, Int.reduceLT, Int.reduceLE, Int.reduceEq, Int.reduceToNat, reduceCtorEq, reduceIte, Nat.zero_add, Nat.add_zero, *]
      rw [← HR.out]; exact RC_ret rfl (by simp [kindE, fit2, hf, twoEnd])
  iterate 4
    · obtain ⟨x, y, rfl⟩ : ∃ x y, l = [x, y] := by
        match l, hl with
        | [x, y], _ => exact ⟨x, y, rfl⟩
        | [], h => simp [argsN] at h
        | [_], h => simp [argsN] at h
        | _ :: _ :: _ :: _, h => simp [argsN] at h; omega
      clear hl
      generalize hR : RC _ = R
      have HR := Lib.hid hR; clear hR
      simp (maxSteps := 1000000) only [sh_ref07_kind, encI, go_sem, Nat.reduceAdd, Nat.reduceSub, Nat.reduceMul, Nat.reduceLeDiff, Nat.reduceEqDiff, Int.reduceAdd, Int.reduceSub, Int.reduceMul, Int.reduceNeg, Int.reduceLT, Int.reduceLE, Int.reduceEq, Int.reduceToNat, reduceCtorEq, reduceIte, Nat.zero_add, Nat.add_zero, *]
      refine CALL_con0 (rfFits_con x 1) rfl ?_
      cases hf : (decide (x = 0) || decide (x = 1)) with
      | false =>
        simp (maxSteps := 1000000) only [go_sem, Nat.reduceAdd, Nat.reduceSub, Nat.reduceMul, Nat.reduceLeDiff, Nat.reduceEqDiff, Int.reduceAdd, Int.reduceSub, Int.reduceMul, Int.reduceNeg, Int.reduceLT, Int.reduceLE, Int.reduceEq, Int.reduceToNat, reduceCtorEq, reduceIte, Nat.zero_add, Nat.add_zero, *]
        rw [← HR.out]; exact RC_ret rfl (by simp [kindE, fit1, hf, twoEnd])
      | true =>
        simp (maxSteps := 1000000) only [go_sem, Nat.reduceAdd, Nat.reduceSub, Nat.reduceMul, Nat.reduceLeDiff, Nat.reduceEqDiff, Int.reduceAdd, Int.reduceSub, Int.reduceMul, Int.reduceNeg, Int.reduceLT, Int.reduceLE, Int.reduceEq, Int.reduceToNat, reduceCtorEq, reduceIte, Nat.zero_add, Nat.add_zero, *]
        refine CALL_con0 (rfFits_con y 1) rfl ?_
        cases hg : (decide (y = 0) || decide (y = 1))
        all_goals
          simp (maxSteps := 1000000) only [go_sem, Nat.reduceAdd, Nat.reduceSub, Nat.reduceMul, Nat.reduceLeDiff, Nat.reduceEqDiff, Int.reduceAdd, Int.reduceSub, Int.reduceMul, Int.reduceNeg, Int.reduceLT, Int.reduceLE, Int.reduceEq, Int.reduceToNat, reduceCtorEq, reduceIte, Nat.zero_add, Nat.add_zero, *]
          rw [← HR.out]; exact RC_ret rfl (by simp [kindE, fit1, hf, hg, twoEnd])
  iterate 2
    · obtain ⟨x, y, rfl⟩ : ∃ x y, l = [x, y] := by
        match l, hl with
        | [x, y], _ => exact ⟨x, y, rfl⟩
        | [], h => simp [argsN] at h
        | [_], h => simp [argsN] at h
        | _ :: _ :: _ :: _, h => simp [argsN] at h; omega
      clear hl
      generalize hR : RC _ = R
      have HR := Lib.hid hR; clear hR
      simp (maxSteps := 1000000) only [sh_ref07_kind, encI, go_sem, Nat.reduceAdd, Nat.reduceSub, Nat.reduceMul, Nat.reduceLeDiff, Nat.reduceEqDiff, Int.reduceAdd, Int.reduceSub, Int.reduceMul, Int.reduceNeg, Int.reduceLT, Int.reduceLE, Int.reduceEq, Int.reduceToNat, reduceCtorEq, reduceIte, Nat.zero_add, Nat.add_zero, *]
      refine CALL_con0 (rfFits_con x 2) rfl ?_
      cases hf : (decide (x = 0) || decide (x = 2)) with
      | false =>
        simp (maxSteps := 1000000) only [go_sem, Nat.reduceAdd, Nat.reduceSub, Nat.reduceMul, Nat.reduceLeDiff, Nat.reduceEqDiff, Int.reduceAdd, Int.reduceSub, Int.reduceMul, Int.reduceNeg, Int.reduceLT, Int.reduceLE, Int.reduceEq, Int.reduceToNat, reduceCtorEq, reduceIte, Nat.zero_add, Nat.add_zero, *]
        rw [← HR.out]; exact RC_ret rfl (by simp [kindE, fit2, hf, twoEnd])
      | true =>
        simp (maxSteps := 1000000) only [go_sem, Nat.reduceAdd, Nat.reduceSub, Nat.reduceMul, Nat.reduceLeDiff, Nat.reduceEqDiff, Int.reduceAdd, Int.reduceSub, Int.reduceMul, Int.reduceNeg, Int.reduceLT, Int.reduceLE, Int.reduceEq, Int.reduceToNat, reduceCtorEq, reduceIte, Nat.zero_add, Nat.add_zero, *]
        refine CALL_con0 (rfFits_con y 2) rfl ?_
        cases hg : (decide (y = 0) || decide (y = 2))
        all_goals
          simp (maxSteps := 1000000) only [go_sem, Nat.reduceAdd, Nat.reduceSub, Nat.reduceMul, Nat.reduceLeDiff, Nat.reduceEqDiff, Int.reduceAdd, Int.reduceSub, Int.reduceMul, Int.reduceNeg, Int.reduceLT, Int.reduceLE, Int.reduceEq, Int.reduceToNat, reduceCtorEq, reduceIte, Nat.zero_add, Nat.add_zero, *]
          rw [← HR.out]; exact RC_ret rfl (by simp [kindE, fit2, hf, hg, twoEnd])
  iterate 4
    · clear hl
      generalize hR : RC _ = R
      have HR := Lib.hid hR; clear hR
      simp (maxSteps := 1000000) only [sh_ref07_kind, encI, go_sem, Nat.reduceAdd, Nat.reduceSub, Nat.reduceMul, Nat.reduceLeDiff, Nat.reduceEqDiff, Int.reduceAdd, Int.reduceSub, Int.reduceMul, Int.reduceNeg, Int.reduceLT, Int.reduceLE, Int.reduceEq, Int.reduceToNat, reduceCtorEq, reduceIte, Nat.zero_add, Nat.add_zero, *]
      rw [← HR.out]; exact RC_ret rfl rfl
  iterate 2
    · obtain ⟨x, rfl⟩ : ∃ x, l = [x] := by
        match l, hl with
        | [x], _ => exact ⟨x, rfl⟩
        | [], h => simp [argsN] at h
        | _ :: _ :: _, h => simp [argsN] at h; omega
      clear hl
      generalize hR : RC _ = R
      have HR := Lib.hid hR; clear hR
      simp (maxSteps := 1000000) only [sh_ref07_kind, encI, go_sem, Nat.reduceAdd, Nat.reduceSub, Nat.reduceMul, Nat.reduceLeDiff, Nat.reduceEqDiff, Int.reduceAdd, Int.reduceSub, Int.reduceMul, Int.reduceNeg, Int.reduceLT, Int.reduceLE, Int.reduceEq, Int.reduceToNat, reduceCtorEq, reduceIte, Nat.zero_add, Nat.add_zero, *]
      rw [← HR.out]; exact RC_ret rfl rfl
  iterate 6
    · obtain ⟨x, y, rfl⟩ : ∃ x y, l = [x, y] := by
        match l, hl with
        | [x, y], _ => exact ⟨x, y, rfl⟩
        | [], h => simp [argsN] at h
        | [_], h => simp [argsN] at h
        | _ :: _ :: _ :: _, h => simp [argsN] at h; omega
      clear hl
      generalize hR : RC _ = R
      have HR := Lib.hid hR; clear hR
      by_cases hx : x = 0
      · simp (maxSteps := 1000000) only [sh_ref07_kind, encI, go_sem, Nat.reduceAdd, Nat.reduceSub, Nat.reduceMul, Nat.reduceLeDiff, Nat.reduceEqDiff, Int.reduceAdd, Int.reduceSub, Int.reduceMul, Int.reduceNeg, Int.reduceLT, Int.reduceLE, Int.reduceEq, Int.reduceToNat, reduceCtorEq, reduceIte, Nat.zero_add, Nat.add_zero, *]
        intro n_ hn_
        rw [← HR.out]; exact RC_ret rfl (by simp [kindE, fitOk, hx, twoEnd])
      · simp (maxSteps := 1000000) only [sh_ref07_kind, encI, go_sem, Nat.reduceAdd, Nat.reduceSub, Nat.reduceMul, Nat.reduceLeDiff, Nat.reduceEqDiff, Int.reduceAdd, Int.reduceSub, Int.reduceMul, Int.reduceNeg, Int.reduceLT, Int.reduceLE, Int.reduceEq, Int.reduceToNat, reduceCtorEq, reduceIte, Nat.zero_add, Nat.add_zero, *]
        refine callD_conS (I := []) (rfFits_con y x) rfl rfl ?_
        cases hf : (decide (y = 0) || decide (y = x))
        all_goals
          simp (maxSteps := 1000000) only [go_sem, Nat.reduceAdd, Nat.reduceSub, Nat.reduceMul, Nat.reduceLeDiff, Nat.reduceEqDiff, Int.reduceAdd, Int.reduceSub, Int.reduceMul, Int.reduceNeg, Int.reduceLT, Int.reduceLE, Int.reduceEq, Int.reduceToNat, reduceCtorEq, reduceIte, Nat.zero_add, Nat.add_zero, *]
          intro n_ hn_
          rw [← HR.out]; exact RC_ret rfl (by simp at hf; simp [kindE, fitOk, hx, twoEnd, hf])
end Go.Proofs.Ytlhnncmflnjinaa
