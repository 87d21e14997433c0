/- (check.scope).place. -/
import Derived.Test.YtlhnncmflnjinaaCz
set_option linter.unusedSimpArgs false
set_option linter.unusedVariables false
set_option maxRecDepth 100000
namespace Go.Proofs.Ytlhnncmflnjinaa
open Go Go.RowKit Am

theorem encT_len (t : Tb) : (encT t).length = 4 := rfl
theorem encC_len (c : Cl) : (encC c).length = 3 := rfl
attribute [go_sem] encT_len encC_len
/-- what is found so far: how many, is the table known, the place, the kind, the base -/
structure Pl where
  found : Int
  known : Bool
  at_ : Int
  kind : Int
  base : Int
def kindAt (cs : List Cl) (k : Int) : Int := ((cs[k.toNat]?).map (·.kind)).getD 0
def plStep (table name : Tx) (p : Pl) (t : Tb) : Pl :=
  if table = [] ∨ (t.name = table ∧ p.known = false) then
    (if (colF t.columns name).2 = 0 then ⟨p.found + 1, true, p.base + (colF t.columns name).1, kindAt t.columns (colF t.columns name).1, p.base + t.columns.length⟩
     else ⟨p.found, true, p.at_, p.kind, p.base + t.columns.length⟩)
  else ⟨p.found, p.known, p.at_, p.kind, p.base + t.columns.length⟩
def plAll (table name : Tx) (ts : List Tb) : Pl := ts.foldl (plStep table name) ⟨0, decide (table = []), 0, 0, 0⟩
def placeF (table name : Tx) (ts : List Tb) : AEnd :=
  if (plAll table name ts).known = false then errPan 93 else if (plAll table name ts).found = 1 then .ret (.tp [.sc (.int .i64 (plAll table name ts).at_), .sc (.int .i64 (plAll table name ts).kind)]) else errPan 94
theorem plAll_take {table name : Tx} {ts : List Tb} {i : Nat} {t : Tb} (hx : ts[i]? = some t) : plAll table name (ts.take (i + 1)) = plStep table name (plAll table name (ts.take i)) t := by
  unfold plAll
  rw [List.take_add_one, hx, List.foldl_append]; rfl
theorem colF_ok {cs : List Cl} {name : Tx} (h : (colF cs name).2 = 0) : ∃ (k : Nat) (c : Cl), (colF cs name).1 = (k : Int) ∧ cs[k]? = some c ∧ k < cs.length := by
  unfold colF at h ⊢
  split at h
  · cases h
  · rename_i hn
    rw [if_neg hn]
    unfold ixL at hn ⊢
    split at hn
    · rename_i ha
      rw [if_pos ha]
      have hlt : cs.findIdx (fun c => decide (c.name = name)) < cs.length := List.findIdx_lt_length.2 (List.any_eq_true.1 ha)
      exact ⟨_, cs[cs.findIdx (fun c => decide (c.name = name))], rfl, List.getElem?_eq_getElem hlt, hlt⟩
    · exact absurd (by decide) hn
set_option maxHeartbeats 4000000 in
theorem place_con (ts : List Tb) (e : Ep) (hts : ts.length ≤ 2) (hc : ∀ t ∈ ts, t.columns.length ≤ 1048576) : Con Try.prog 97 [.tr (ts.map encT), .ag (encE e)] (placeF e.table e.name ts) := by
  refine con_of (by_check_scope_place ?_)
  generalize hR : RC _ = R
  have HR := Lib.hid hR; clear hR
  have HC := Lib.hid hc; clear hc
  simp (contextual := true) (maxSteps := 1000000) (disch := omega) only [sh_check_scope_place, encE_eq, go_sem, wrapI, wrapB, upd_is, upd_not, Nat.reduceAdd, Nat.reduceSub, Nat.reduceMul, Nat.reduceLeDiff, Nat.reduceEqDiff, Int.reduceAdd, Int.reduceSub, Int.reduceMul, Int.reduceNeg, Int.reduceLT, Int.reduceLE, Int.reduceEq, Int.reduceToNat, reduceCtorEq, reduceIte, Nat.zero_add, Nat.add_zero, *]
  intro n' hn' hlen
  refine LOOP_listM ts (fun i s σ' _ => σ' 0 = some (.c ⟨7, [encE e], true, false⟩) ∧ (0 ≤ (plAll e.table e.name (ts.take i)).base ∧ (plAll e.table e.name (ts.take i)).base ≤ i * 1048576 ∧ 0 ≤ (plAll e.table e.name (ts.take i)).found ∧ (plAll e.table e.name (ts.take i)).found ≤ i) ∧ ∃ a b c d f g, s = [a, b, c, .sc (.bool (plAll e.table e.name (ts.take i)).known), d, f, g, .sc (.int .i64 (plAll e.table e.name (ts.take i)).found), .sc (.int .i64 (plAll e.table e.name (ts.take i)).at_), .sc (.int .i64 (plAll e.table e.name (ts.take i)).kind), .sc (.int .i64 (plAll e.table e.name (ts.take i)).base), .sc (.int .i64 i)]) (.refl ⟨by rw [upd_is rfl, encE_eq], by simp [plAll], _, _, _, _, _, _, rfl⟩) ?_ ?_
  · rintro i t K s' σ' n2 hx hi hi' hn ⟨hbx, ⟨hb0, hb1, hf0, hf1⟩, a, b, c, d, f, g, rfl⟩ hK
    rw [encE_eq] at hbx
    have HK := Lib.hid hK; clear hK
    have HN := Lib.hid (plAll_take (table := e.table) (name := e.name) hx)
    have hct := HC.out t (List.mem_of_getElem? hx)
    generalize plAll e.table e.name (ts.take i) = p at *
    have fin : ∀ (a b c d f g : AV) (q : Pl) (σ2 : Hp) (n2 : Nat), q = plStep e.table e.name p t → σ2 0 = some (.c ⟨7, [encE e], true, false⟩) → 0 ≤ q.base ∧ q.base ≤ (i + 1 : Nat) * 1048576 ∧ 0 ≤ q.found ∧ q.found ≤ (i + 1 : Nat) →
        K [a, b, c, .sc (.bool q.known), d, f, g, .sc (.int .i64 q.found), .sc (.int .i64 q.at_), .sc (.int .i64 q.kind), .sc (.int .i64 q.base), .sc (.int .i64 (i + 1 : Nat))] σ2 n2 := by
      intro a b c d f g q σ2 n2 hq h0 hbd
      refine HK.out _ _ _ (.refl ⟨h0, ?_, a, b, c, d, f, g, ?_⟩)
      · rw [HN.out, ← hq]; exact hbd
      · rw [HN.out, ← hq]
    have FIN := Lib.hid fin; clear fin
    have hbx' : σ' 0 = some (.c ⟨7, [encE e], true, false⟩) := by rw [encE_eq]; exact hbx
    have HBX := Lib.hid hbx'; clear hbx'
    by_cases h1 : e.table = []
    · simp (maxSteps := 1000000) (disch := omega) only [lb_check_scope_place5, encT, go_sem, wrapI, wrapB, upd_is, upd_not, Nat.reduceAdd, Nat.reduceSub, Nat.reduceMul, Nat.reduceLeDiff, Nat.reduceEqDiff, Int.reduceAdd, Int.reduceSub, Int.reduceMul, Int.reduceNeg, Int.reduceLT, Int.reduceLE, Int.reduceEq, Int.reduceToNat, reduceCtorEq, reduceIte, Nat.zero_add, Nat.add_zero, *]
      refine CALL_con0 (column_con t e.name) rfl ?_
      by_cases h2 : (colF t.columns e.name).2 = 0
      · obtain ⟨k, cl, hk, hcl, hklt⟩ := colF_ok h2
        rw [hk]
        simp (maxSteps := 1000000) (disch := omega) only [encC, go_sem, wrapI, wrapB, upd_is, upd_not, Nat.reduceAdd, Nat.reduceSub, Nat.reduceMul, Nat.reduceLeDiff, Nat.reduceEqDiff, Int.reduceAdd, Int.reduceSub, Int.reduceMul, Int.reduceNeg, Int.reduceLT, Int.reduceLE, Int.reduceEq, Int.reduceToNat, reduceCtorEq, reduceIte, Nat.zero_add, Nat.add_zero, *]
        intro n3 hn3 _
        refine FIN.out _ _ _ _ _ _ ⟨p.found + 1, true, p.base + k, cl.kind, p.base + t.columns.length⟩ _ _ ?_ ?_ ?_
        · simp [plStep, h1, h2, hk, kindAt, hcl]
        · rw [upd_not (by omega), upd_not (by omega)]; exact HBX.out
        · simp only; omega
      · simp (maxSteps := 1000000) (disch := omega) only [go_sem, wrapI, wrapB, upd_is, upd_not, Nat.reduceAdd, Nat.reduceSub, Nat.reduceMul, Nat.reduceLeDiff, Nat.reduceEqDiff, Int.reduceAdd, Int.reduceSub, Int.reduceMul, Int.reduceNeg, Int.reduceLT, Int.reduceLE, Int.reduceEq, Int.reduceToNat, reduceCtorEq, reduceIte, Nat.zero_add, Nat.add_zero, *]
        intro _
        refine FIN.out _ _ _ _ _ _ ⟨p.found, true, p.at_, p.kind, p.base + t.columns.length⟩ _ _ ?_ ?_ ?_
        · simp [plStep, h1, h2]
        · rw [upd_not (by omega), upd_not (by omega)]; exact HBX.out
        · simp only; omega
    · by_cases h3 : t.name = e.table
      · cases h4 : p.known with
        | true =>
          simp (maxSteps := 1000000) (disch := omega) only [lb_check_scope_place5, encT, go_sem, wrapI, wrapB, upd_is, upd_not, Nat.reduceAdd, Nat.reduceSub, Nat.reduceMul, Nat.reduceLeDiff, Nat.reduceEqDiff, Int.reduceAdd, Int.reduceSub, Int.reduceMul, Int.reduceNeg, Int.reduceLT, Int.reduceLE, Int.reduceEq, Int.reduceToNat, reduceCtorEq, reduceIte, Nat.zero_add, Nat.add_zero, *]
          intro _
          refine FIN.out _ _ _ _ _ _ ⟨p.found, true, p.at_, p.kind, p.base + t.columns.length⟩ _ _ ?_ ?_ ?_
          · simp [plStep, h1, h3, h4]
          · rw [upd_not (by omega), upd_not (by omega)]; exact HBX.out
          · simp only; omega
        | false =>
          simp (maxSteps := 1000000) (disch := omega) only [lb_check_scope_place5, encT, go_sem, wrapI, wrapB, upd_is, upd_not, Nat.reduceAdd, Nat.reduceSub, Nat.reduceMul, Nat.reduceLeDiff, Nat.reduceEqDiff, Int.reduceAdd, Int.reduceSub, Int.reduceMul, Int.reduceNeg, Int.reduceLT, Int.reduceLE, Int.reduceEq, Int.reduceToNat, reduceCtorEq, reduceIte, Nat.zero_add, Nat.add_zero, *]
          refine CALL_con0 (column_con ⟨e.table, t.columns, t.key, t.indexes⟩ e.name) rfl ?_
          by_cases h2 : (colF t.columns e.name).2 = 0
          · obtain ⟨k, cl, hk, hcl, hklt⟩ := colF_ok h2
            rw [hk]
            simp (maxSteps := 1000000) (disch := omega) only [encC, go_sem, wrapI, wrapB, upd_is, upd_not, Nat.reduceAdd, Nat.reduceSub, Nat.reduceMul, Nat.reduceLeDiff, Nat.reduceEqDiff, Int.reduceAdd, Int.reduceSub, Int.reduceMul, Int.reduceNeg, Int.reduceLT, Int.reduceLE, Int.reduceEq, Int.reduceToNat, reduceCtorEq, reduceIte, Nat.zero_add, Nat.add_zero, *]
            intro n3 hn3 _
            refine FIN.out _ _ _ _ _ _ ⟨p.found + 1, true, p.base + k, cl.kind, p.base + t.columns.length⟩ _ _ ?_ ?_ ?_
            · simp [plStep, h1, h2, h3, h4, hk, kindAt, hcl]
            · rw [upd_not (by omega), upd_not (by omega)]; exact HBX.out
            · simp only; omega
          · simp (maxSteps := 1000000) (disch := omega) only [go_sem, wrapI, wrapB, upd_is, upd_not, Nat.reduceAdd, Nat.reduceSub, Nat.reduceMul, Nat.reduceLeDiff, Nat.reduceEqDiff, Int.reduceAdd, Int.reduceSub, Int.reduceMul, Int.reduceNeg, Int.reduceLT, Int.reduceLE, Int.reduceEq, Int.reduceToNat, reduceCtorEq, reduceIte, Nat.zero_add, Nat.add_zero, *]
            intro _
            refine FIN.out _ _ _ _ _ _ ⟨p.found, true, p.at_, p.kind, p.base + t.columns.length⟩ _ _ ?_ ?_ ?_
            · simp [plStep, h1, h2, h3, h4]
            · rw [upd_not (by omega), upd_not (by omega)]; exact HBX.out
            · simp only; omega
      · simp (maxSteps := 1000000) (disch := omega) only [lb_check_scope_place5, encT, go_sem, wrapI, wrapB, upd_is, upd_not, Nat.reduceAdd, Nat.reduceSub, Nat.reduceMul, Nat.reduceLeDiff, Nat.reduceEqDiff, Int.reduceAdd, Int.reduceSub, Int.reduceMul, Int.reduceNeg, Int.reduceLT, Int.reduceLE, Int.reduceEq, Int.reduceToNat, reduceCtorEq, reduceIte, Nat.zero_add, Nat.add_zero, *]
        intro _
        refine FIN.out _ _ _ _ _ _ ⟨p.found, p.known, p.at_, p.kind, p.base + t.columns.length⟩ _ _ ?_ ?_ ?_
        · simp [plStep, h1, h3]
        · rw [upd_not (by omega), upd_not (by omega)]; exact HBX.out
        · simp only; omega
  · rintro K s' σ' n2 hn ⟨hbx, ⟨hb0, hb1, hf0, hf1⟩, a, b, c, d, f, g, rfl⟩
    rw [List.take_length] at *
    have HF : RowKit.Hid (placeF e.table e.name ts = if (plAll e.table e.name ts).known = false then errPan 93 else if (plAll e.table e.name ts).found = 1 then .ret (.tp [.sc (.int .i64 (plAll e.table e.name ts).at_), .sc (.int .i64 (plAll e.table e.name ts).kind)]) else errPan 94) := Lib.hid rfl
    generalize plAll e.table e.name ts = p at *
    simp (maxSteps := 1000000) (disch := omega) only [lb_check_scope_place5, Int.lt_irrefl, go_sem, wrapI, wrapB, upd_is, upd_not, Nat.reduceAdd, Nat.reduceSub, Nat.reduceMul, Nat.reduceLeDiff, Nat.reduceEqDiff, Int.reduceAdd, Int.reduceSub, Int.reduceMul, Int.reduceNeg, Int.reduceLT, Int.reduceLE, Int.reduceEq, Int.reduceToNat, reduceCtorEq, reduceIte, Nat.zero_add, Nat.add_zero, *]
    refine CALL_con0 (need_con _ _) rfl ?_
    cases h1 : p.known with
    | false =>
      simp (maxSteps := 1000000) (disch := omega) only [go_sem, wrapI, wrapB, upd_is, upd_not, Nat.reduceAdd, Nat.reduceSub, Nat.reduceMul, Nat.reduceLeDiff, Nat.reduceEqDiff, Int.reduceAdd, Int.reduceSub, Int.reduceMul, Int.reduceNeg, Int.reduceLT, Int.reduceLE, Int.reduceEq, Int.reduceToNat, reduceCtorEq, reduceIte, Nat.zero_add, Nat.add_zero, *]
      rw [← HR.out]; exact RC_pan (by rw [HF.out]; simp [h1, errPan])
    | true =>
      simp (maxSteps := 1000000) (disch := omega) only [go_sem, wrapI, wrapB, upd_is, upd_not, Nat.reduceAdd, Nat.reduceSub, Nat.reduceMul, Nat.reduceLeDiff, Nat.reduceEqDiff, Int.reduceAdd, Int.reduceSub, Int.reduceMul, Int.reduceNeg, Int.reduceLT, Int.reduceLE, Int.reduceEq, Int.reduceToNat, reduceCtorEq, reduceIte, Nat.zero_add, Nat.add_zero, *]
      refine CALL_con0 (need_con _ _) rfl ?_
      by_cases h2 : p.found = 1
      · simp (maxSteps := 1000000) (disch := omega) only [go_sem, wrapI, wrapB, upd_is, upd_not, Nat.reduceAdd, Nat.reduceSub, Nat.reduceMul, Nat.reduceLeDiff, Nat.reduceEqDiff, Int.reduceAdd, Int.reduceSub, Int.reduceMul, Int.reduceNeg, Int.reduceLT, Int.reduceLE, Int.reduceEq, Int.reduceToNat, reduceCtorEq, reduceIte, Nat.zero_add, Nat.add_zero, *]
        rw [← HR.out]; exact RC_ret rfl (by rw [HF.out]; simp [h1, h2])
      · simp (maxSteps := 1000000) (disch := omega) only [go_sem, wrapI, wrapB, upd_is, upd_not, Nat.reduceAdd, Nat.reduceSub, Nat.reduceMul, Nat.reduceLeDiff, Nat.reduceEqDiff, Int.reduceAdd, Int.reduceSub, Int.reduceMul, Int.reduceNeg, Int.reduceLT, Int.reduceLE, Int.reduceEq, Int.reduceToNat, reduceCtorEq, reduceIte, Nat.zero_add, Nat.add_zero, *]
        rw [← HR.out]; exact RC_pan (by rw [HF.out]; simp [h1, h2, errPan])
end Go.Proofs.Ytlhnncmflnjinaa
