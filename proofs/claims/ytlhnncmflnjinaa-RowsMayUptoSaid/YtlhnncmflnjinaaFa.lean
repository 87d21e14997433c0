/- value.Order, rows.fits. -/
import Derived.Test.YtlhnncmflnjinaaRw
import Derived.Test.YtlhnncmflnjinaaDe
import Derived.Test.YtlhnncmflnjinaaSh9
set_option linter.unusedSimpArgs false
set_option linter.unusedVariables false
set_option maxRecDepth 100000
namespace Go.Proofs.Ytlhnncmflnjinaa
open Go Go.RowKit Am

def cmpI (a b : Int) : Int := if a < b then -1 else if b < a then 1 else 0
def cmpS (a b : Tx) : Int := if Op.bytesLess a b = true then -1 else if a = b then 0 else 1
theorem nanI_con (a : Int) : Con Try.prog 163 [.sc (.int .i64 a)] (.ret (.sc (.bool false))) := by
  refine con_of (by_cmp_isNaN_int ?_)
  simp (maxSteps := 1000000) (disch := omega) only [sh_cmp_isNaN_int, decide_true, go_sem, wrapI, wrapB, upd_is, upd_not, Nat.reduceAdd, Nat.reduceSub, Nat.reduceMul, Nat.reduceLeDiff, Nat.reduceEqDiff, Int.reduceAdd, Int.reduceSub, Int.reduceMul, Int.reduceNeg, Int.reduceLT, Int.reduceLE, Int.reduceEq, Int.reduceToNat, reduceCtorEq, reduceIte, Nat.zero_add, Nat.add_zero, *]
  exact RC_ret rfl rfl
theorem nanS_con (a : Tx) : Con Try.prog 154 [.s a] (.ret (.sc (.bool false))) := by
  refine con_of (by_cmp_isNaN_string ?_)
  simp (maxSteps := 1000000) (disch := omega) only [sh_cmp_isNaN_string, decide_true, go_sem, wrapI, wrapB, upd_is, upd_not, Nat.reduceAdd, Nat.reduceSub, Nat.reduceMul, Nat.reduceLeDiff, Nat.reduceEqDiff, Int.reduceAdd, Int.reduceSub, Int.reduceMul, Int.reduceNeg, Int.reduceLT, Int.reduceLE, Int.reduceEq, Int.reduceToNat, reduceCtorEq, reduceIte, Nat.zero_add, Nat.add_zero, *]
  exact RC_ret rfl rfl
theorem cmpI_con (a b : Int) : Con Try.prog 125 [.sc (.int .i64 a), .sc (.int .i64 b)] (.ret (.sc (.int .i64 (cmpI a b)))) := by
  refine con_of (by_cmp_Compare_int ?_)
  generalize hR : RC _ = R
  have HR := Lib.hid hR; clear hR
  simp (maxSteps := 1000000) (disch := omega) only [sh_cmp_Compare_int, go_sem, wrapI, wrapB, upd_is, upd_not, Nat.reduceAdd, Nat.reduceSub, Nat.reduceMul, Nat.reduceLeDiff, Nat.reduceEqDiff, Int.reduceAdd, Int.reduceSub, Int.reduceMul, Int.reduceNeg, Int.reduceLT, Int.reduceLE, Int.reduceEq, Int.reduceToNat, reduceCtorEq, reduceIte, Nat.zero_add, Nat.add_zero, *]
  refine CALL_con0 (nanI_con a) rfl ?_
  simp (maxSteps := 1000000) (disch := omega) only [go_sem, wrapI, wrapB, upd_is, upd_not, Nat.reduceAdd, Nat.reduceSub, Nat.reduceMul, Nat.reduceLeDiff, Nat.reduceEqDiff, Int.reduceAdd, Int.reduceSub, Int.reduceMul, Int.reduceNeg, Int.reduceLT, Int.reduceLE, Int.reduceEq, Int.reduceToNat, reduceCtorEq, reduceIte, Nat.zero_add, Nat.add_zero, *]
  refine CALL_con0 (nanI_con b) rfl ?_
  by_cases h1 : a < b
  · simp (maxSteps := 1000000) (disch := omega) only [go_sem, wrapI, wrapB, upd_is, upd_not, Nat.reduceAdd, Nat.reduceSub, Nat.reduceMul, Nat.reduceLeDiff, Nat.reduceEqDiff, Int.reduceAdd, Int.reduceSub, Int.reduceMul, Int.reduceNeg, Int.reduceLT, Int.reduceLE, Int.reduceEq, Int.reduceToNat, reduceCtorEq, reduceIte, Nat.zero_add, Nat.add_zero, *]
    rw [← HR.out]; exact RC_ret rfl (by rw [cmpI, if_pos h1])
  · by_cases h2 : b < a
    · simp (maxSteps := 1000000) (disch := omega) only [go_sem, wrapI, wrapB, upd_is, upd_not, Nat.reduceAdd, Nat.reduceSub, Nat.reduceMul, Nat.reduceLeDiff, Nat.reduceEqDiff, Int.reduceAdd, Int.reduceSub, Int.reduceMul, Int.reduceNeg, Int.reduceLT, Int.reduceLE, Int.reduceEq, Int.reduceToNat, reduceCtorEq, reduceIte, Nat.zero_add, Nat.add_zero, *]
      rw [← HR.out]; exact RC_ret rfl (by rw [cmpI, if_neg h1, if_pos h2])
    · simp (maxSteps := 1000000) (disch := omega) only [go_sem, wrapI, wrapB, upd_is, upd_not, Nat.reduceAdd, Nat.reduceSub, Nat.reduceMul, Nat.reduceLeDiff, Nat.reduceEqDiff, Int.reduceAdd, Int.reduceSub, Int.reduceMul, Int.reduceNeg, Int.reduceLT, Int.reduceLE, Int.reduceEq, Int.reduceToNat, reduceCtorEq, reduceIte, Nat.zero_add, Nat.add_zero, *]
      rw [← HR.out]; exact RC_ret rfl (by rw [cmpI, if_neg h1, if_neg h2])
theorem cmpS_con (a b : Tx) : Con Try.prog 112 [.s a, .s b] (.ret (.sc (.int .i64 (cmpS a b)))) := by
  refine con_of (by_cmp_Compare_string ?_)
  generalize hR : RC _ = R
  have HR := Lib.hid hR; clear hR
  simp (maxSteps := 1000000) (disch := omega) only [sh_cmp_Compare_string, go_sem, wrapI, wrapB, upd_is, upd_not, Nat.reduceAdd, Nat.reduceSub, Nat.reduceMul, Nat.reduceLeDiff, Nat.reduceEqDiff, Int.reduceAdd, Int.reduceSub, Int.reduceMul, Int.reduceNeg, Int.reduceLT, Int.reduceLE, Int.reduceEq, Int.reduceToNat, reduceCtorEq, reduceIte, Nat.zero_add, Nat.add_zero, *]
  refine CALL_con0 (nanS_con a) rfl ?_
  simp (maxSteps := 1000000) (disch := omega) only [go_sem, wrapI, wrapB, upd_is, upd_not, Nat.reduceAdd, Nat.reduceSub, Nat.reduceMul, Nat.reduceLeDiff, Nat.reduceEqDiff, Int.reduceAdd, Int.reduceSub, Int.reduceMul, Int.reduceNeg, Int.reduceLT, Int.reduceLE, Int.reduceEq, Int.reduceToNat, reduceCtorEq, reduceIte, Nat.zero_add, Nat.add_zero, *]
  refine CALL_con0 (nanS_con b) rfl ?_
  cases h1 : Op.bytesLess a b with
  | true =>
    simp (maxSteps := 1000000) (disch := omega) only [go_sem, wrapI, wrapB, upd_is, upd_not, Nat.reduceAdd, Nat.reduceSub, Nat.reduceMul, Nat.reduceLeDiff, Nat.reduceEqDiff, Int.reduceAdd, Int.reduceSub, Int.reduceMul, Int.reduceNeg, Int.reduceLT, Int.reduceLE, Int.reduceEq, Int.reduceToNat, reduceCtorEq, reduceIte, Nat.zero_add, Nat.add_zero, *]
    rw [← HR.out]; exact RC_ret rfl (by rw [cmpS, if_pos h1])
  | false =>
    by_cases h2 : a = b
    · have h3 : (a == b) = true := by simpa using h2
      have H2 := Lib.hid h2; clear h2
      simp (maxSteps := 1000000) (disch := omega) only [Bool.or_true, Bool.false_or, Bool.or_false, go_sem, wrapI, wrapB, upd_is, upd_not, Nat.reduceAdd, Nat.reduceSub, Nat.reduceMul, Nat.reduceLeDiff, Nat.reduceEqDiff, Int.reduceAdd, Int.reduceSub, Int.reduceMul, Int.reduceNeg, Int.reduceLT, Int.reduceLE, Int.reduceEq, Int.reduceToNat, reduceCtorEq, reduceIte, Nat.zero_add, Nat.add_zero, *]
      rw [← HR.out]; exact RC_ret rfl (by rw [cmpS, if_neg (by simp [h1]), if_pos H2.out])
    · have h3 : (a == b) = false := by simpa using h2
      have H2 := Lib.hid h2; clear h2
      simp (maxSteps := 1000000) (disch := omega) only [Bool.or_true, Bool.false_or, Bool.or_false, go_sem, wrapI, wrapB, upd_is, upd_not, Nat.reduceAdd, Nat.reduceSub, Nat.reduceMul, Nat.reduceLeDiff, Nat.reduceEqDiff, Int.reduceAdd, Int.reduceSub, Int.reduceMul, Int.reduceNeg, Int.reduceLT, Int.reduceLE, Int.reduceEq, Int.reduceToNat, reduceCtorEq, reduceIte, Nat.zero_add, Nat.add_zero, *]
      rw [← HR.out]; exact RC_ret rfl (by rw [cmpS, if_neg (by simp [h1]), if_neg H2.out])
/-- which of two values comes first? -/
def orderF (a b : Vl) : Int := if cmpI a.kind b.kind ≠ 0 then cmpI a.kind b.kind else if a.kind = 1 ∨ a.kind = 2 then cmpI a.n b.n else if a.kind = 3 then cmpS a.text b.text else 0
theorem order_con (a b : Vl) : Con Try.prog 77 [.ag (encV a), .ag (encV b)] (.ret (.sc (.int .i64 (orderF a b)))) := by
  refine con_of (by_value_Order ?_)
  generalize hR : RC _ = R
  have HR := Lib.hid hR; clear hR
  have H1 := Lib.hid (cmpI_con a.kind b.kind)
  have H2 := Lib.hid (cmpI_con a.n b.n)
  have H3 := Lib.hid (cmpS_con a.text b.text)
  simp (maxSteps := 1000000) (disch := omega) only [sh_value_Order, encV, go_sem, wrapI, wrapB, upd_is, upd_not, Nat.reduceAdd, Nat.reduceSub, Nat.reduceMul, Nat.reduceLeDiff, Nat.reduceEqDiff, Int.reduceAdd, Int.reduceSub, Int.reduceMul, Int.reduceNeg, Int.reduceLT, Int.reduceLE, Int.reduceEq, Int.reduceToNat, reduceCtorEq, reduceIte, Nat.zero_add, Nat.add_zero, *]
  refine CALL_con0 H1.out rfl ?_
  clear H1
  have ho : orderF a b = if cmpI a.kind b.kind ≠ 0 then cmpI a.kind b.kind else if a.kind = 1 ∨ a.kind = 2 then cmpI a.n b.n else if a.kind = 3 then cmpS a.text b.text else 0 := rfl
  have HO := Lib.hid ho; clear ho
  generalize cmpI a.kind b.kind = c at *
  by_cases h0 : c = 0
  · by_cases k1 : a.kind = 1
    · simp (maxSteps := 1000000) (disch := omega) only [go_sem, wrapI, wrapB, upd_is, upd_not, Nat.reduceAdd, Nat.reduceSub, Nat.reduceMul, Nat.reduceLeDiff, Nat.reduceEqDiff, Int.reduceAdd, Int.reduceSub, Int.reduceMul, Int.reduceNeg, Int.reduceLT, Int.reduceLE, Int.reduceEq, Int.reduceToNat, reduceCtorEq, reduceIte, Nat.zero_add, Nat.add_zero, *]
      refine CALL_con0 H2.out rfl ?_
      simp (maxSteps := 1000000) (disch := omega) only [go_sem, wrapI, wrapB, upd_is, upd_not, Nat.reduceAdd, Nat.reduceSub, Nat.reduceMul, Nat.reduceLeDiff, Nat.reduceEqDiff, Int.reduceAdd, Int.reduceSub, Int.reduceMul, Int.reduceNeg, Int.reduceLT, Int.reduceLE, Int.reduceEq, Int.reduceToNat, reduceCtorEq, reduceIte, Nat.zero_add, Nat.add_zero, *]
      rw [← HR.out]; exact RC_ret rfl (by rw [HO.out, if_neg (by simp [h0]), if_pos (.inl k1)])
    · by_cases k2 : a.kind = 2
      · simp (maxSteps := 1000000) (disch := omega) only [go_sem, wrapI, wrapB, upd_is, upd_not, Nat.reduceAdd, Nat.reduceSub, Nat.reduceMul, Nat.reduceLeDiff, Nat.reduceEqDiff, Int.reduceAdd, Int.reduceSub, Int.reduceMul, Int.reduceNeg, Int.reduceLT, Int.reduceLE, Int.reduceEq, Int.reduceToNat, reduceCtorEq, reduceIte, Nat.zero_add, Nat.add_zero, *]
        refine CALL_con0 H2.out rfl ?_
        simp (maxSteps := 1000000) (disch := omega) only [go_sem, wrapI, wrapB, upd_is, upd_not, Nat.reduceAdd, Nat.reduceSub, Nat.reduceMul, Nat.reduceLeDiff, Nat.reduceEqDiff, Int.reduceAdd, Int.reduceSub, Int.reduceMul, Int.reduceNeg, Int.reduceLT, Int.reduceLE, Int.reduceEq, Int.reduceToNat, reduceCtorEq, reduceIte, Nat.zero_add, Nat.add_zero, *]
        rw [← HR.out]; exact RC_ret rfl (by rw [HO.out, if_neg (by simp [h0]), if_pos (.inr k2)])
      · by_cases k3 : a.kind = 3
        · simp (maxSteps := 1000000) (disch := omega) only [go_sem, wrapI, wrapB, upd_is, upd_not, Nat.reduceAdd, Nat.reduceSub, Nat.reduceMul, Nat.reduceLeDiff, Nat.reduceEqDiff, Int.reduceAdd, Int.reduceSub, Int.reduceMul, Int.reduceNeg, Int.reduceLT, Int.reduceLE, Int.reduceEq, Int.reduceToNat, reduceCtorEq, reduceIte, Nat.zero_add, Nat.add_zero, *]
          refine CALL_con0 H3.out rfl ?_
          simp (maxSteps := 1000000) (disch := omega) only [go_sem, wrapI, wrapB, upd_is, upd_not, Nat.reduceAdd, Nat.reduceSub, Nat.reduceMul, Nat.reduceLeDiff, Nat.reduceEqDiff, Int.reduceAdd, Int.reduceSub, Int.reduceMul, Int.reduceNeg, Int.reduceLT, Int.reduceLE, Int.reduceEq, Int.reduceToNat, reduceCtorEq, reduceIte, Nat.zero_add, Nat.add_zero, *]
          rw [← HR.out]; exact RC_ret rfl (by rw [HO.out, if_neg (by simp [h0]), if_neg (by omega), if_pos k3])
        · simp (maxSteps := 1000000) (disch := omega) only [go_sem, wrapI, wrapB, upd_is, upd_not, Nat.reduceAdd, Nat.reduceSub, Nat.reduceMul, Nat.reduceLeDiff, Nat.reduceEqDiff, Int.reduceAdd, Int.reduceSub, Int.reduceMul, Int.reduceNeg, Int.reduceLT, Int.reduceLE, Int.reduceEq, Int.reduceToNat, reduceCtorEq, reduceIte, Nat.zero_add, Nat.add_zero, *]
          rw [← HR.out]; exact RC_ret rfl (by rw [HO.out, if_neg (by simp [h0]), if_neg (by omega), if_neg k3])
  · simp (maxSteps := 1000000) (disch := omega) only [go_sem, wrapI, wrapB, upd_is, upd_not, Nat.reduceAdd, Nat.reduceSub, Nat.reduceMul, Nat.reduceLeDiff, Nat.reduceEqDiff, Int.reduceAdd, Int.reduceSub, Int.reduceMul, Int.reduceNeg, Int.reduceLT, Int.reduceLE, Int.reduceEq, Int.reduceToNat, reduceCtorEq, reduceIte, Nat.zero_add, Nat.add_zero, *]
    rw [← HR.out]; exact RC_ret rfl (by rw [HO.out, if_pos h0])
/-- may a value stand in a column? -/
def fitOne (c : Cl) (v : Vl) : Int := if valOk v.kind v.n v.text = false then 9 else if v.kind = 0 ∧ c.notNull = true then 86 else if v.kind ≠ 0 ∧ v.kind ≠ c.kind then 81 else 0
def fitsL : List Cl → List Vl → Int
  | c :: cs, v :: vs => if fitOne c v ≠ 0 then fitOne c v else fitsL cs vs
  | _, _ => 0
def fitsF (cs : List Cl) (row : List Vl) : Int := if row.length ≠ cs.length then 3 else fitsL cs row
theorem fitsL_stop : ∀ {cs : List Cl} {vs : List Vl} {i : Nat} {c : Cl} {v : Vl}, cs[i]? = some c → vs[i]? = some v → fitsL (cs.take i) (vs.take i) = 0 → fitOne c v ≠ 0 → fitsL cs vs = fitOne c v
  | [], _, i, c, v, h, _, _, _ => by simp at h
  | _ :: _, [], i, c, v, _, h, _, _ => by simp at h
  | a :: cs, b :: vs, 0, c, v, h1, h2, _, h => by cases h1; cases h2; simp only [fitsL, if_pos h]
  | a :: cs, b :: vs, i + 1, c, v, h1, h2, h3, h => by
    simp only [List.take_succ_cons, fitsL] at h3 ⊢
    by_cases e : fitOne a b = 0
    · rw [if_neg (by simp [e])] at h3 ⊢
      exact fitsL_stop (by simpa using h1) (by simpa using h2) h3 h
    · rw [if_pos e] at h3; exact absurd h3 e
theorem fitsL_take : ∀ {cs : List Cl} {vs : List Vl} {i : Nat} {c : Cl} {v : Vl}, cs[i]? = some c → vs[i]? = some v → fitsL (cs.take i) (vs.take i) = 0 → fitOne c v = 0 → fitsL (cs.take (i + 1)) (vs.take (i + 1)) = 0
  | [], _, i, c, v, h, _, _, _ => by simp at h
  | _ :: _, [], i, c, v, _, h, _, _ => by simp at h
  | a :: cs, b :: vs, 0, c, v, h1, h2, _, h => by cases h1; cases h2; simp [fitsL, h]
  | a :: cs, b :: vs, i + 1, c, v, h1, h2, h3, h => by
    rw [List.take_succ_cons, List.take_succ_cons, fitsL] at h3 ⊢
    by_cases e : fitOne a b = 0
    · rw [if_neg (by simp [e])] at h3 ⊢
      exact fitsL_take (by simpa using h1) (by simpa using h2) h3 h
    · rw [if_pos e] at h3; exact absurd h3 e
theorem encV_len (v : Vl) : (encV v).length = 3 := rfl
theorem encV_take (v : Vl) : (encV v).take 3 = encV v := rfl
theorem encV_drop (v : Vl) : (encV v).drop 3 = [] := rfl
theorem encV_leaf (v : Vl) : (encV v).all leafok = true := rfl
theorem encV_clo (v : Vl) : (encV v).all clo = true := rfl
theorem encV_brw (σ : Hp) (d : Nat) (v : Vl) : brwL σ d (encV v) = some (encV v, []) := by
  simp only [brwL_cons, brwL_nil, brw_sc, encV, brw_s, List.append_nil]
attribute [go_sem] encV_len encV_take encV_drop encV_leaf encV_clo encV_brw
set_option maxHeartbeats 8000000 in
theorem fits_con (t : Tb) (row : List Vl) : Con Try.prog 76 [.ag (encT t), .tr (row.map encV)] (.ret (.sc (.int .i64 (fitsF t.columns row)))) := by
  refine con_of (by_rows_fits ?_)
  generalize hR : RC _ = R
  have HR := Lib.hid hR; clear hR
  by_cases hl : (row.length : Int) = t.columns.length
  · have hf : fitsF t.columns row = fitsL t.columns row := if_neg (by omega)
    have HF := Lib.hid hf; clear hf
    have hl' : row.length = t.columns.length := by omega
    have HL := Lib.hid hl'; clear hl'
    simp (maxSteps := 1000000) (disch := omega) only [sh_rows_fits, encT, go_sem, wrapI, wrapB, upd_is, upd_not, Nat.reduceAdd, Nat.reduceSub, Nat.reduceMul, Nat.reduceLeDiff, Nat.reduceEqDiff, Int.reduceAdd, Int.reduceSub, Int.reduceMul, Int.reduceNeg, Int.reduceLT, Int.reduceLE, Int.reduceEq, Int.reduceToNat, reduceCtorEq, reduceIte, Nat.zero_add, Nat.add_zero, *]
    intros
    refine LOOP_listM row (fun i s σ' n' => (∃ a b c d e f g h, s = [a, b, c, d, e, f, g, h, .sc (.int .i64 i)]) ∧ fitsL (t.columns.take i) (row.take i) = 0 ∧ σ' 0 = some (.c ⟨4, [[.s t.name, .tr (t.columns.map encC), .sc (.int .i64 t.key), .tr (t.indexes.map encX)]], true, false⟩)) (.refl ⟨⟨_, _, _, _, _, _, _, _, rfl⟩, rfl, rfl⟩) ?_ ?_
    · rintro i v K s' σ' n2 hx hi hi' hn ⟨⟨a, b, c, d, e, f, g, h, rfl⟩, h0, hb0⟩ hK
      have HK := Lib.hid hK; clear hK
      have hi2 : i < t.columns.length := by rw [← HL.out]; exact hi
      have hxc : t.columns[i]? = some t.columns[i] := List.getElem?_eq_getElem hi2
      generalize t.columns[i] = cl at hxc
      have HS := Lib.hid (fun h => fitsL_stop hxc hx h0 h)
      have HT := Lib.hid (fun h => fitsL_take hxc hx h0 h)
      have h3 : (i : Int) < t.columns.length := by omega
      clear h0
      have HO := Lib.hid (show fitOne cl v = if valOk v.kind v.n v.text = false then 9 else if v.kind = 0 ∧ cl.notNull = true then 86 else if v.kind ≠ 0 ∧ v.kind ≠ cl.kind then 81 else 0 from rfl)
      have stop : ∀ (x : Int) (σ2 : Hp) (m2 : Nat), fitOne cl v = x → x ≠ 0 → R (.ret (.sc (.int .i64 x))) σ2 m2 := by
        intro x σ2 m2 h h0
        subst h
        rw [← HR.out, HF.out, HS.out h0]; exact RC_ret rfl rfl
      have STOP := Lib.hid stop; clear stop
      have on : fitOne cl v = 0 → ∀ (a b c d e f g h : AV) (σ2 : Hp) (m2 : Nat), σ2 0 = some (.c ⟨4, [[.s t.name, .tr (t.columns.map encC), .sc (.int .i64 t.key), .tr (t.indexes.map encX)]], true, false⟩) → K [a, b, c, d, e, f, g, h, .sc (.int .i64 ((i : Int) + 1))] σ2 m2 := by
        intro h0 a b c d e f g h σ2 m2 hb
        exact HK.out _ _ _ (.refl ⟨⟨_, _, _, _, _, _, _, _, rfl⟩, HT.out h0, hb⟩)
      have ON := Lib.hid on; clear on
      cases hv : valOk v.kind v.n v.text with
      | false =>
        have HV := Lib.hid (valCheck_con v.kind v.n v.text)
        rw [hv] at HV HO
        clear hv
        simp (maxSteps := 1000000) (disch := omega) only [lb_rows_fits2, encV, encC, go_sem, wrapI, wrapB, upd_is, upd_not, Nat.reduceAdd, Nat.reduceSub, Nat.reduceMul, Nat.reduceLeDiff, Nat.reduceEqDiff, Int.reduceAdd, Int.reduceSub, Int.reduceMul, Int.reduceNeg, Int.reduceLT, Int.reduceLE, Int.reduceEq, Int.reduceToNat, reduceCtorEq, reduceIte, Nat.zero_add, Nat.add_zero, *]
        refine CALL_con0 HV.out rfl ?_
        simp (maxSteps := 1000000) (disch := omega) only [Bool.false_eq_true, go_sem, wrapI, wrapB, upd_is, upd_not, Nat.reduceAdd, Nat.reduceSub, Nat.reduceMul, Nat.reduceLeDiff, Nat.reduceEqDiff, Int.reduceAdd, Int.reduceSub, Int.reduceMul, Int.reduceNeg, Int.reduceLT, Int.reduceLE, Int.reduceEq, Int.reduceToNat, reduceCtorEq, reduceIte, Nat.zero_add, Nat.add_zero, *]
        exact STOP.out 9 _ _ (by rw [HO.out]; rfl) (by decide)
      | true =>
        have HV := Lib.hid (valCheck_con v.kind v.n v.text)
        rw [hv] at HV HO
        clear hv
        by_cases k0 : v.kind = 0
        · cases hn : cl.notNull with
          | true =>
            simp (maxSteps := 1000000) (disch := omega) only [lb_rows_fits2, encV, encC, go_sem, wrapI, wrapB, upd_is, upd_not, Nat.reduceAdd, Nat.reduceSub, Nat.reduceMul, Nat.reduceLeDiff, Nat.reduceEqDiff, Int.reduceAdd, Int.reduceSub, Int.reduceMul, Int.reduceNeg, Int.reduceLT, Int.reduceLE, Int.reduceEq, Int.reduceToNat, reduceCtorEq, reduceIte, Nat.zero_add, Nat.add_zero, *]
            refine CALL_con0 HV.out (by rw [k0]; rfl) ?_
            simp (maxSteps := 1000000) (disch := omega) only [go_sem, wrapI, wrapB, upd_is, upd_not, Nat.reduceAdd, Nat.reduceSub, Nat.reduceMul, Nat.reduceLeDiff, Nat.reduceEqDiff, Int.reduceAdd, Int.reduceSub, Int.reduceMul, Int.reduceNeg, Int.reduceLT, Int.reduceLE, Int.reduceEq, Int.reduceToNat, reduceCtorEq, reduceIte, Nat.zero_add, Nat.add_zero, *]
            exact STOP.out 86 _ _ (by rw [HO.out, if_neg (by decide), if_pos ⟨k0, hn⟩]) (by decide)
          | false =>
            simp (maxSteps := 1000000) (disch := omega) only [lb_rows_fits2, encV, encC, go_sem, wrapI, wrapB, upd_is, upd_not, Nat.reduceAdd, Nat.reduceSub, Nat.reduceMul, Nat.reduceLeDiff, Nat.reduceEqDiff, Int.reduceAdd, Int.reduceSub, Int.reduceMul, Int.reduceNeg, Int.reduceLT, Int.reduceLE, Int.reduceEq, Int.reduceToNat, reduceCtorEq, reduceIte, Nat.zero_add, Nat.add_zero, *]
            refine CALL_con0 HV.out (by rw [k0]; rfl) ?_
            simp (maxSteps := 1000000) (disch := omega) only [go_sem, wrapI, wrapB, upd_is, upd_not, Nat.reduceAdd, Nat.reduceSub, Nat.reduceMul, Nat.reduceLeDiff, Nat.reduceEqDiff, Int.reduceAdd, Int.reduceSub, Int.reduceMul, Int.reduceNeg, Int.reduceLT, Int.reduceLE, Int.reduceEq, Int.reduceToNat, reduceCtorEq, reduceIte, Nat.zero_add, Nat.add_zero, *]
            refine ON.out (by rw [HO.out, if_neg (by decide), if_neg (by simp [hn]), if_neg (by simp [k0])]) _ _ _ _ _ _ _ _ _ _ ?_
            simp (disch := omega) only [upd_not]; exact hb0
        · by_cases k1 : v.kind = cl.kind
          · have k2 : ¬ cl.kind = 0 := k1 ▸ k0
            simp (maxSteps := 1000000) (disch := omega) only [lb_rows_fits2, encV, encC, go_sem, wrapI, wrapB, upd_is, upd_not, Nat.reduceAdd, Nat.reduceSub, Nat.reduceMul, Nat.reduceLeDiff, Nat.reduceEqDiff, Int.reduceAdd, Int.reduceSub, Int.reduceMul, Int.reduceNeg, Int.reduceLT, Int.reduceLE, Int.reduceEq, Int.reduceToNat, reduceCtorEq, reduceIte, Nat.zero_add, Nat.add_zero, *]
            refine CALL_con0 HV.out (by rw [k1]; rfl) ?_
            simp (maxSteps := 1000000) (disch := omega) only [go_sem, wrapI, wrapB, upd_is, upd_not, Nat.reduceAdd, Nat.reduceSub, Nat.reduceMul, Nat.reduceLeDiff, Nat.reduceEqDiff, Int.reduceAdd, Int.reduceSub, Int.reduceMul, Int.reduceNeg, Int.reduceLT, Int.reduceLE, Int.reduceEq, Int.reduceToNat, reduceCtorEq, reduceIte, Nat.zero_add, Nat.add_zero, *]
            refine ON.out (by rw [HO.out, if_neg (by decide), if_neg (by simp [k0]), if_neg (by simp [k1])]) _ _ _ _ _ _ _ _ _ _ ?_
            simp (disch := omega) only [upd_not]; exact hb0
          · simp (maxSteps := 1000000) (disch := omega) only [lb_rows_fits2, encV, encC, go_sem, wrapI, wrapB, upd_is, upd_not, Nat.reduceAdd, Nat.reduceSub, Nat.reduceMul, Nat.reduceLeDiff, Nat.reduceEqDiff, Int.reduceAdd, Int.reduceSub, Int.reduceMul, Int.reduceNeg, Int.reduceLT, Int.reduceLE, Int.reduceEq, Int.reduceToNat, reduceCtorEq, reduceIte, Nat.zero_add, Nat.add_zero, *]
            refine CALL_con0 HV.out rfl ?_
            simp (maxSteps := 1000000) (disch := omega) only [go_sem, wrapI, wrapB, upd_is, upd_not, Nat.reduceAdd, Nat.reduceSub, Nat.reduceMul, Nat.reduceLeDiff, Nat.reduceEqDiff, Int.reduceAdd, Int.reduceSub, Int.reduceMul, Int.reduceNeg, Int.reduceLT, Int.reduceLE, Int.reduceEq, Int.reduceToNat, reduceCtorEq, reduceIte, Nat.zero_add, Nat.add_zero, *]
            exact STOP.out 81 _ _ (by rw [HO.out, if_neg (by decide), if_neg (by simp [k0]), if_pos ⟨k0, k1⟩]) (by decide)
    · rintro K s' σ' n2 hn ⟨⟨a, b, c, d, e, f, g, h, rfl⟩, h0, hb0⟩
      rw [List.take_length, List.take_of_length_le (by rw [HL.out]; exact Nat.le_refl _)] at h0
      have H0 := Lib.hid h0; clear h0
      simp (maxSteps := 1000000) (disch := omega) only [lb_rows_fits2, Int.lt_irrefl, go_sem, wrapI, wrapB, upd_is, upd_not, Nat.reduceAdd, Nat.reduceSub, Nat.reduceMul, Nat.reduceLeDiff, Nat.reduceEqDiff, Int.reduceAdd, Int.reduceSub, Int.reduceMul, Int.reduceNeg, Int.reduceLT, Int.reduceLE, Int.reduceEq, Int.reduceToNat, reduceCtorEq, reduceIte, Nat.zero_add, Nat.add_zero, *]
      rw [← HR.out, HF.out, H0.out]; exact RC_ret rfl rfl
  · have hf : fitsF t.columns row = 3 := if_pos (by omega)
    have HF := Lib.hid hf; clear hf
    simp (maxSteps := 1000000) (disch := omega) only [sh_rows_fits, encT, go_sem, wrapI, wrapB, upd_is, upd_not, Nat.reduceAdd, Nat.reduceSub, Nat.reduceMul, Nat.reduceLeDiff, Nat.reduceEqDiff, Int.reduceAdd, Int.reduceSub, Int.reduceMul, Int.reduceNeg, Int.reduceLT, Int.reduceLE, Int.reduceEq, Int.reduceToNat, reduceCtorEq, reduceIte, Nat.zero_add, Nat.add_zero, *]
    intros
    rw [← HR.out, HF.out]; exact RC_ret rfl rfl
end Go.Proofs.Ytlhnncmflnjinaa
