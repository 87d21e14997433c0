/- Packed by a program of this repo: Qe. -/
import Derived.Test.YtodoejfkjimeaaaDoorKEQd
import Derived.Test.YtodoejfkjimeaaaDoorKEQb
import Derived.Test.YtodoejfkjimeaaaDoorKEMs
set_option linter.unusedSimpArgs false
set_option linter.unusedVariables false
set_option maxRecDepth 100000
namespace Go.Proofs.YtodoejfkjimeaaaDoor
open Go Go.RowKit Am
attribute [-go_sem] guardP_if guardK_if guardD_if COND_bool
attribute [local go_sem low] guardP_if guardK_if guardD_if COND_bool

/-- all lists of a statement's expressions, in order -/
def listsF (x : Sm) : List (List Ep) := x.rows ++ (x.sets.map (fun s => [s.ex]) ++ [x.items, x.on, x.where_, x.group])
/-- what a round does to memory that is not the caller's: nothing -/
abbrev rndR (n0 n : Nat) (σ : Hp) (J Q : Hp → Prop) : AEnd → Hp → Nat → Prop := fun r σ' _ => (∀ i, n0 ≤ i → i < n → σ' i = σ i) ∧ ((r = .ret (bb true) ∧ J σ') ∨ (r = .ret (bb false) ∧ Q σ'))
theorem flat_take {α : Type} {L : List (List α)} {i : Nat} {l : List α} (h : L[i]? = some l) : (L.take (i + 1)).flatten = (L.take i).flatten ++ l := by
  rw [List.take_add_one, h, List.flatten_append]; simp
theorem flat_split {α : Type} {L : List (List α)} {i : Nat} {l : List α} (h : L[i]? = some l) : L.flatten = (L.take i).flatten ++ (l ++ (L.drop (i + 1)).flatten) := by
  have hi := (List.getElem?_eq_some_iff.1 h).1
  have e : L = L.take i ++ (l :: L.drop (i + 1)) := by
    have h2 := (List.getElem?_eq_some_iff.1 h).2
    rw [← h2, ← List.drop_eq_getElem_cons hi, List.take_append_drop]
  conv => lhs; rw [e]
  simp
theorem take_split {α : Type} {l : List α} {j : Nat} {e : α} (h : l[j]? = some e) : l = l.take j ++ e :: l.drop (j + 1) := by
  obtain ⟨hi, h2⟩ := List.getElem?_eq_some_iff.1 h
  rw [← h2, ← List.drop_eq_getElem_cons hi, List.take_append_drop]
set_option maxHeartbeats 8000000 in
theorem exprs_con (x : Sm) (hb : SBd x) (y : Nat) (J : List Ep → Hp → Prop) (Q : Hp → Prop) (σ0 : Hp) (n0 : Nat) (hJ : ∀ pre σ σ', J pre σ → (∀ i, i < n0 → σ' i = σ i) → J pre σ')
    (hr : ∀ pre e post σ n, (listsF x).flatten = pre ++ e :: post → n0 ≤ n → J pre σ → YCon Tryd.prog y [.ag (encE e)] σ n (rndR n0 n σ (J (pre ++ [e])) Q)) (h0 : J [] σ0) :
    ConH Tryd.prog 58 [.ag (encSm x), .yl y] σ0 n0 (fun r σ' _ => r = .ret (.tp []) ∧ (J (listsF x).flatten σ' ∨ Q σ')) := by
  refine by_syntax_exprs ?_
  generalize hR : (fun (r' : AEnd) (σ' : Hp) (_ : Nat) => _) = R
  have HR := Lib.hid hR; clear hR
  have HJ := Lib.hid hJ; clear hJ
  have HY := Lib.hid hr; clear hr
  have H0 := Lib.hid h0; clear h0
  obtain ⟨kind, table, columns, key, index, rows, sets, items, join, on, wh, group, order, limit⟩ := x
  have HB := Lib.hid hb
  have hrl : rows.length ≤ 1048576 := hb.rows
  have hsl : sets.length ≤ 1048576 := hb.sets
  clear hb
  simp (maxSteps := 1000000) (disch := omega) only [sh_syntax_exprs, encSm, go_sem, wrapI, wrapB, upd_is, upd_not, Nat.reduceAdd, Nat.reduceSub, Nat.reduceMul, Nat.reduceLeDiff, Nat.reduceEqDiff, Int.reduceAdd, Int.reduceSub, Int.reduceMul, Int.reduceNeg, Int.reduceLT, Int.reduceLE, Int.reduceEq, Int.reduceToNat, reduceCtorEq, reduceIte, Nat.zero_add, Nat.add_zero, *]
  refine CALL_conW (clR_con rows hrl (n0 + 16)) (fun p hp => by cases hp) (fun n' hn' => ?_)
  have HN := Lib.hid hn'
  simp (maxSteps := 1000000) (disch := omega) only [applyW_cons, applyW_nil, go_sem, wrapI, wrapB, upd_is, upd_not, Nat.reduceAdd, Nat.reduceSub, Nat.reduceMul, Nat.reduceLeDiff, Nat.reduceEqDiff, Int.reduceAdd, Int.reduceSub, Int.reduceMul, Int.reduceNeg, Int.reduceLT, Int.reduceLE, Int.reduceEq, Int.reduceToNat, reduceCtorEq, reduceIte, Nat.zero_add, Nat.add_zero, *]
  intro _
  refine LOOP_listM sets (fun i s σ n => ∃ a b m, s = [a, b, .ow m 1 0 (rows.length + i), .sc (.int .i64 i)] ∧ n0 + 16 ≤ m ∧ m < n ∧ σ m = some (.c ⟨1, rows.map encRx ++ (sets.take i).map (fun s => encRx [s.ex]), true, true⟩) ∧
    σ n0 = some (.c ⟨14, [[.sc (.int .i64 kind), .s table, .tr (columns.map encC), .s key, .s index, .tr (rows.map encRx), .tr (sets.map encS), .tr (items.map encE), .s join, .tr (on.map encE), .tr (wh.map encE), .tr (group.map encE), .tr (order.map encO), .sc (.int .i64 limit)]], true, false⟩) ∧ J [] σ)
    (.refl ⟨_, _, n0 + 16, rfl, by omega, by omega, ?_, ?_, HJ.out _ _ _ H0.out (fun i hi => by simp (disch := omega) only [upd_not])⟩) ?_ ?_
  · rw [upd_is rfl]; simp
  · rw [upd_not (by omega), upd_is rfl]
  · rintro i s K s' σ n hx hi1 hi' hn1 ⟨a, b, m, rfl, hm, hmn, hσm, hσ0, hj⟩ hK
    have HK := Lib.hid hK; clear hK
    have HJJ := Lib.hid hj; clear hj
    have hl : (rows.map encRx ++ (sets.take i).map (fun s => encRx [s.ex])).length = rows.length + i := by simp; omega
    have hnx : rows.map encRx ++ (sets.take (i + 1)).map (fun s => encRx [s.ex]) = (rows.map encRx ++ (sets.take i).map (fun s => encRx [s.ex])) ++ [encRx [s.ex]] := by
      rw [List.take_add_one, hx, List.map_append, ← List.append_assoc]; rfl
    have HNX := Lib.hid hnx; clear hnx
    generalize hRW : rows.map encRx ++ (sets.take i).map (fun s => encRx [s.ex]) = RW at hσm hl
    have HRW := Lib.hid hRW; clear hRW
    have c1 : (rows.length + i + 1) * 24 ≤ 140737488355328 := by omega
    have c2 : ¬ m = n + 16 + 16 + 16 + 16 := by omega
    simp (maxSteps := 1000000) (disch := omega) only [lb_syntax_exprs4, encS, encE_eq, encRx, go_sem, wrapI, wrapB, upd_is, upd_not, Nat.reduceAdd, Nat.reduceSub, Nat.reduceMul, Nat.reduceLeDiff, Nat.reduceEqDiff, Int.reduceAdd, Int.reduceSub, Int.reduceMul, Int.reduceNeg, Int.reduceLT, Int.reduceLE, Int.reduceEq, Int.reduceToNat, reduceCtorEq, reduceIte, Nat.zero_add, Nat.add_zero, *]
    refine HK.out _ _ _ (.refl ?_)
    refine ⟨_, _, n + 16 + 16 + 16 + 16, rfl, by omega, ?_, ?_, ?_, ?_⟩
    · omega
    · rw [upd_is rfl, HNX.out, HRW.out]; simp only [encRx, encE_eq, List.map_cons, List.map_nil]
    · simp (disch := omega) only [upd_not]; exact hσ0
    · exact HJ.out _ _ _ HJJ.out (fun i hi => by simp (disch := omega) only [upd_not])
  · rintro K s' σ n hn1 ⟨a, b, m, rfl, hm, hmn, hσm, hσ0, hj⟩
    rw [List.take_length] at hσm
    have HJJ := Lib.hid hj; clear hj
    have hl : (rows.map encRx ++ sets.map (fun s => encRx [s.ex])).length = rows.length + sets.length := by simp
    generalize hRW : rows.map encRx ++ sets.map (fun s => encRx [s.ex]) = RW at hσm hl
    have HRW := Lib.hid hRW; clear hRW
    have c1 : (rows.length + sets.length + 4) * 24 ≤ 140737488355328 := by omega
    have c2 : ¬ m = n + 16 := by omega
    simp (maxSteps := 1000000) (disch := omega) only [lb_syntax_exprs4, Int.lt_irrefl, go_sem, wrapI, wrapB, upd_is, upd_not, Nat.reduceAdd, Nat.reduceSub, Nat.reduceMul, Nat.reduceLeDiff, Nat.reduceEqDiff, Int.reduceAdd, Int.reduceSub, Int.reduceMul, Int.reduceNeg, Int.reduceLT, Int.reduceLE, Int.reduceEq, Int.reduceToNat, reduceCtorEq, reduceIte, Nat.zero_add, Nat.add_zero, *]
    intro _
    have hLL : RW ++ [[AV.tr (items.map encE)], [AV.tr (on.map encE)], [AV.tr (wh.map encE)], [AV.tr (group.map encE)]] = (listsF ⟨kind, table, columns, key, index, rows, sets, items, join, on, wh, group, order, limit⟩).map encRx := by
      rw [← HRW.out]; simp [listsF, encRx, Function.comp_def]
    have hlen : (listsF ⟨kind, table, columns, key, index, rows, sets, items, join, on, wh, group, order, limit⟩).length = rows.length + sets.length + 4 := by simp [listsF]; omega
    rw [hLL]
    have hlb : ∀ l ∈ listsF ⟨kind, table, columns, key, index, rows, sets, items, join, on, wh, group, order, limit⟩, l.length ≤ 1048576 := by
      have hb := HB.out
      intro l hl
      simp only [listsF, List.mem_append, List.mem_map, List.mem_cons, List.not_mem_nil, or_false] at hl
      rcases hl with h | ⟨s, hs, rfl⟩ | rfl | rfl | rfl | rfl
      · exact (hb.row l h).len
      · simp
      · exact hb.items.len
      · exact hb.on.len
      · exact hb.where_.len
      · exact hb.group.len
    clear hLL HRW hl hσm hσ0
    generalize listsF ⟨kind, table, columns, key, index, rows, sets, items, join, on, wh, group, order, limit⟩ = LL at HR HY hlen hlb
    refine LOOP_listM LL (fun i s σ' n' => ∃ a b c d e f g h, s = [a, b, c, d, e, f, g, h, .sc (.int .i64 i)] ∧ n + 16 < n' ∧ σ' (n + 16) = some (.c ⟨1, LL.map encRx, true, true⟩) ∧ J (LL.take i).flatten σ')
      (.refl ⟨_, _, _, _, _, _, _, _, rfl, by omega, upd_is rfl, HJ.out _ _ _ HJJ.out (fun i hi => by simp (disch := omega) only [upd_not])⟩) ?_ ?_
    · rintro i l K s' σ2 n2 hx hi1 hi' hn2 ⟨a, b, c, d, e, f, g, h, rfl, hnn, hσm, hj⟩ hK
      have HK := Lib.hid hK; clear hK
      have HJ2 := Lib.hid hj; clear hj
      have HLB := Lib.hid hlb
      have hll : l.length ≤ 1048576 := hlb l (List.mem_of_getElem? hx)
      have hi2 : (i : Int) < ((rows.length + sets.length + 4 : Nat) : Int) := by rw [← hlen]; exact hi'
      have hi3 : i < rows.length + sets.length + 4 := by omega
      clear hlb
      simp (maxSteps := 1000000) (disch := omega) only [lb_syntax_exprs3, encRx, go_sem, wrapI, wrapB, upd_is, upd_not, Nat.reduceAdd, Nat.reduceSub, Nat.reduceMul, Nat.reduceLeDiff, Nat.reduceEqDiff, Int.reduceAdd, Int.reduceSub, Int.reduceMul, Int.reduceNeg, Int.reduceLT, Int.reduceLE, Int.reduceEq, Int.reduceToNat, reduceCtorEq, reduceIte, Nat.zero_add, Nat.add_zero, *]
      intro _
      refine LOOP_listM l (fun j s σ' n' => ∃ p q r, s = [p, q, r, .sc (.int .i64 j)] ∧ n + 16 < n' ∧ σ' (n + 16) = some (.c ⟨1, LL.map encRx, true, true⟩) ∧ J ((LL.take i).flatten ++ l.take j) σ')
        (.refl ⟨_, _, _, rfl, hnn, hσm, by simpa using HJ2.out⟩) ?_ ?_
      · rintro j z K2 s2 σ3 n3 hz hj1 hj' hn3 ⟨p, q, r, rfl, hnn3, hσ3, hj3⟩ hK2
        have HK2 := Lib.hid hK2; clear hK2
        have HJ3 := Lib.hid hj3; clear hj3
        have hfl : LL.flatten = ((LL.take i).flatten ++ l.take j) ++ z :: (l.drop (j + 1) ++ (LL.drop (i + 1)).flatten) := by
          rw [flat_split hx]
          conv => lhs; rw [take_split hz]
          simp
        have HFL := Lib.hid hfl; clear hfl
        have hnx : (LL.take i).flatten ++ l.take (j + 1) = ((LL.take i).flatten ++ l.take j) ++ [z] := by rw [List.take_add_one, hz, ← List.append_assoc]; rfl
        have HNX := Lib.hid hnx; clear hnx
        have HHM := Lib.hid hσ3
        simp (maxSteps := 1000000) (disch := omega) only [lb_syntax_exprs2, encE_eq, go_sem, wrapI, wrapB, upd_is, upd_not, Nat.reduceAdd, Nat.reduceSub, Nat.reduceMul, Nat.reduceLeDiff, Nat.reduceEqDiff, Int.reduceAdd, Int.reduceSub, Int.reduceMul, Int.reduceNeg, Int.reduceLT, Int.reduceLE, Int.reduceEq, Int.reduceToNat, reduceCtorEq, reduceIte, Nat.zero_add, Nat.add_zero, *]
        refine .y ⟨_, (by rw [← encE_eq]; exact HY.out _ z _ _ _ HFL.out (by omega) (HJ.out _ _ _ HJ3.out (fun i hi => by simp (disch := omega) only [upd_not]))), ?_⟩
        rintro r' σ4 n4 ⟨hk4, hor⟩ hn4
        rcases hor with ⟨rfl, hj4⟩ | ⟨rfl, hq4⟩
        · have HJ4 := Lib.hid hj4; clear hj4
          have HK4 := Lib.hid hk4; clear hk4
          simp (maxSteps := 1000000) (disch := omega) only [go_sem, wrapI, wrapB, upd_is, upd_not, Nat.reduceAdd, Nat.reduceSub, Nat.reduceMul, Nat.reduceLeDiff, Nat.reduceEqDiff, Int.reduceAdd, Int.reduceSub, Int.reduceMul, Int.reduceNeg, Int.reduceLT, Int.reduceLE, Int.reduceEq, Int.reduceToNat, reduceCtorEq, reduceIte, Nat.zero_add, Nat.add_zero, *]
          refine HK2.out _ _ _ (.refl ⟨_, _, _, rfl, ?_, ?_, ?_⟩)
          · omega
          · rw [HK4.out _ (by omega) (by omega)]
            simp (disch := omega) only [upd_not]; exact HHM.out
          · rw [HNX.out]; exact HJ4.out
        · have HQ4 := Lib.hid hq4; clear hq4
          clear hk4
          simp (maxSteps := 1000000) (disch := omega) only [go_sem, wrapI, wrapB, upd_is, upd_not, Nat.reduceAdd, Nat.reduceSub, Nat.reduceMul, Nat.reduceLeDiff, Nat.reduceEqDiff, Int.reduceAdd, Int.reduceSub, Int.reduceMul, Int.reduceNeg, Int.reduceLT, Int.reduceLE, Int.reduceEq, Int.reduceToNat, reduceCtorEq, reduceIte, Nat.zero_add, Nat.add_zero, *]
          rw [← HR.out]
          exact ⟨rfl, .inr HQ4.out⟩
      · rintro K2 s2 σ3 n3 hn3 ⟨p, q, r, rfl, hnn3, hσ3, hj3⟩
        rw [List.take_length, ← flat_take hx] at hj3
        have HJ3 := Lib.hid hj3; clear hj3
        have HHM := Lib.hid hσ3; clear hσ3
        simp (maxSteps := 1000000) (disch := omega) only [lb_syntax_exprs2, Int.lt_irrefl, go_sem, wrapI, wrapB, upd_is, upd_not, Nat.reduceAdd, Nat.reduceSub, Nat.reduceMul, Nat.reduceLeDiff, Nat.reduceEqDiff, Int.reduceAdd, Int.reduceSub, Int.reduceMul, Int.reduceNeg, Int.reduceLT, Int.reduceLE, Int.reduceEq, Int.reduceToNat, reduceCtorEq, reduceIte, Nat.zero_add, Nat.add_zero, *]
        exact HK.out _ _ _ (.refl ⟨_, _, _, _, _, _, _, _, rfl, by omega, HHM.out, HJ3.out⟩)
    · rintro K s' σ2 n2 hn2 ⟨a, b, c, d, e, f, g, h, rfl, hnn, hσm, hj⟩
      rw [List.take_length] at hj
      have HJ2 := Lib.hid hj; clear hj
      rw [hlen]
      simp (maxSteps := 1000000) (disch := omega) only [lb_syntax_exprs3, Int.lt_irrefl, go_sem, wrapI, wrapB, upd_is, upd_not, Nat.reduceAdd, Nat.reduceSub, Nat.reduceMul, Nat.reduceLeDiff, Nat.reduceEqDiff, Int.reduceAdd, Int.reduceSub, Int.reduceMul, Int.reduceNeg, Int.reduceLT, Int.reduceLE, Int.reduceEq, Int.reduceToNat, reduceCtorEq, reduceIte, Nat.zero_add, Nat.add_zero, *]
      rw [← HR.out]
      exact ⟨rfl, .inl HJ2.out⟩
end Go.Proofs.YtodoejfkjimeaaaDoor
