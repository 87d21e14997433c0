/- Packed by a program of this repo: Ql. -/
import Derived.Test.YtlhnncmflnjinaaKBQk
set_option linter.unusedSimpArgs false
set_option linter.unusedVariables false
set_option maxRecDepth 100000
namespace Go.Proofs.Ytlhnncmflnjinaa
open Go Go.RowKit Am
attribute [-go_sem] guardP_if guardK_if guardD_if COND_bool
attribute [local go_sem low] guardP_if guardK_if guardD_if COND_bool

def boolV (b : Bool) : Vl := ⟨2, if b then 1 else 0, []⟩
def textV (x : Tx) : Vl := ⟨3, 0, x⟩
def numV (n : Int) : Vl := ⟨1, n, []⟩
def colV (c : Cl) : List Vl := [textV c.name, numV c.kind, boolV c.notNull]
def ixV (x : Ix) : List Vl := [textV x.name, numV x.at_]
def encodeL (t : Tb) : List Vl := [textV t.name, numV t.key, numV t.columns.length] ++ t.columns.flatMap colV ++ [numV t.indexes.length] ++ t.indexes.flatMap ixV
theorem textV_con (x : Tx) : Con Try.prog 88 [.s x] (.ret (.ag (encV (textV x)))) := by
  refine con_of (by_catalog_text ?_)
  simp (maxSteps := 1000000) (disch := omega) only [sh_catalog_text, go_sem, wrapI, wrapB, upd_is, upd_not, Nat.reduceAdd, Nat.reduceSub, Nat.reduceMul, Nat.reduceLeDiff, Nat.reduceEqDiff, Int.reduceAdd, Int.reduceSub, Int.reduceMul, Int.reduceNeg, Int.reduceLT, Int.reduceLE, Int.reduceEq, Int.reduceToNat, reduceCtorEq, reduceIte, Nat.zero_add, Nat.add_zero, *]
  exact RC_ret rfl rfl
theorem numV_con (n : Int) : Con Try.prog 89 [.sc (.int .i64 n)] (.ret (.ag (encV (numV n)))) := by
  refine con_of (by_catalog_number ?_)
  simp (maxSteps := 1000000) (disch := omega) only [sh_catalog_number, go_sem, wrapI, wrapB, upd_is, upd_not, Nat.reduceAdd, Nat.reduceSub, Nat.reduceMul, Nat.reduceLeDiff, Nat.reduceEqDiff, Int.reduceAdd, Int.reduceSub, Int.reduceMul, Int.reduceNeg, Int.reduceLT, Int.reduceLE, Int.reduceEq, Int.reduceToNat, reduceCtorEq, reduceIte, Nat.zero_add, Nat.add_zero, *]
  exact RC_ret rfl rfl
theorem boolV_con (b : Bool) : Con Try.prog 90 [.sc (.bool b)] (.ret (.ag (encV (boolV b)))) := by
  refine con_of (by_value_Bool ?_)
  cases b
  · simp (maxSteps := 1000000) (disch := omega) only [sh_value_Bool, go_sem, wrapI, wrapB, upd_is, upd_not, Nat.reduceAdd, Nat.reduceSub, Nat.reduceMul, Nat.reduceLeDiff, Nat.reduceEqDiff, Int.reduceAdd, Int.reduceSub, Int.reduceMul, Int.reduceNeg, Int.reduceLT, Int.reduceLE, Int.reduceEq, Int.reduceToNat, reduceCtorEq, reduceIte, Nat.zero_add, Nat.add_zero, *]
    exact RC_ret rfl rfl
  · simp (maxSteps := 1000000) (disch := omega) only [sh_value_Bool, go_sem, wrapI, wrapB, upd_is, upd_not, Nat.reduceAdd, Nat.reduceSub, Nat.reduceMul, Nat.reduceLeDiff, Nat.reduceEqDiff, Int.reduceAdd, Int.reduceSub, Int.reduceMul, Int.reduceNeg, Int.reduceLT, Int.reduceLE, Int.reduceEq, Int.reduceToNat, reduceCtorEq, reduceIte, Nat.zero_add, Nat.add_zero, *]
    exact RC_ret rfl rfl
theorem colV_len (l : List Cl) : (l.flatMap colV).length = 3 * l.length := by
  induction l with
  | nil => rfl
  | cons c l ih => rw [List.flatMap_cons, List.length_append, ih, List.length_cons, show (colV c).length = 3 from rfl]; omega
theorem ixV_len (l : List Ix) : (l.flatMap ixV).length = 2 * l.length := by
  induction l with
  | nil => rfl
  | cons c l ih => rw [List.flatMap_cons, List.length_append, ih, List.length_cons, show (ixV c).length = 2 from rfl]; omega
theorem flat_takeV {α : Type} {f : α → List Vl} {l : List α} {i : Nat} {x : α} (h : l[i]? = some x) : (l.take (i + 1)).flatMap f = (l.take i).flatMap f ++ f x := by
  rw [List.take_add_one, h, List.flatMap_append]; simp
def preA (name : Tx) (key : Int) (columns : List Cl) (i : Nat) : List Vl := [textV name, numV key, numV columns.length] ++ (columns.take i).flatMap colV
def preB (name : Tx) (key : Int) (columns : List Cl) (indexes : List Ix) (i : Nat) : List Vl := preA name key columns columns.length ++ [numV indexes.length] ++ (indexes.take i).flatMap ixV
theorem preA_len {name : Tx} {key : Int} {columns : List Cl} {i : Nat} (h : i ≤ columns.length) : ((preA name key columns i).map encV).length = 3 + 3 * i := by
  rw [preA, List.length_map, List.length_append, colV_len, List.length_take]; simp; omega
theorem preB_len {name : Tx} {key : Int} {columns : List Cl} {indexes : List Ix} {i : Nat} (h : i ≤ indexes.length) : ((preB name key columns indexes i).map encV).length = 3 + 3 * columns.length + 1 + 2 * i := by
  have := preA_len (name := name) (key := key) (columns := columns) (Nat.le_refl _)
  rw [List.length_map] at this
  rw [preB, List.length_map, List.length_append, List.length_append, this, ixV_len, List.length_take]
  simp; omega
theorem preA_next {name : Tx} {key : Int} {columns : List Cl} {i : Nat} {c : Cl} (h : columns[i]? = some c) : (preA name key columns (i + 1)).map encV = (preA name key columns i).map encV ++ [encV (textV c.name), encV (numV c.kind), encV (boolV c.notNull)] := by
  rw [preA, flat_takeV h, ← List.append_assoc, List.map_append]; rfl
theorem preB_zero {name : Tx} {key : Int} {columns : List Cl} {indexes : List Ix} : (preB name key columns indexes 0).map encV = (preA name key columns columns.length).map encV ++ [encV (numV indexes.length)] := by
  rw [preB, List.take_zero, List.flatMap_nil, List.append_nil, List.map_append]; rfl
theorem preB_next {name : Tx} {key : Int} {columns : List Cl} {indexes : List Ix} {i : Nat} {c : Ix} (h : indexes[i]? = some c) : (preB name key columns indexes (i + 1)).map encV = (preB name key columns indexes i).map encV ++ [encV (textV c.name), encV (numV c.at_)] := by
  rw [preB, flat_takeV h, ← List.append_assoc, List.map_append]; rfl
theorem preB_end {name : Tx} {key : Int} {columns : List Cl} {indexes : List Ix} : preB name key columns indexes indexes.length = encodeL ⟨name, columns, key, indexes⟩ := by
  simp only [preB, preA, List.take_length, encodeL]
theorem bnd_enc {a i b : Nat} (ha : a ≤ 1048576) (hb : b ≤ 1048576) (h : i < b) : (3 + 3 * a + 1 + 2 * (i + 1)) * 32 ≤ 140737488355328 := by omega
set_option maxHeartbeats 1000000 in
theorem encode_con (t : Tb) (ht : TRg t) : Con Try.prog 42 [.ag (encT t)] (.ret (.tp (if mayF t = true then [.tr ((encodeL t).map encV), .sc (.int .i64 0)] else [.tr [], .sc (.int .i64 9)]))) := by
  refine con_of (by_catalog_Encode ?_)
  generalize hR : RC _ = R
  have HR := Lib.hid hR; clear hR
  have HM := Lib.hid (may_con t ht)
  have HT := fun x => Lib.hid (textV_con x)
  have HN := fun x => Lib.hid (numV_con x)
  have HB := fun x => Lib.hid (boolV_con x)
  have hcl := ht.bd.col.1
  have hil := ht.bd.ind.1
  clear ht
  simp (maxSteps := 1000000) (disch := omega) only [sh_catalog_Encode, go_sem, wrapI, wrapB, upd_is, upd_not, Nat.reduceAdd, Nat.reduceSub, Nat.reduceMul, Nat.reduceLeDiff, Nat.reduceEqDiff, Int.reduceAdd, Int.reduceSub, Int.reduceMul, Int.reduceNeg, Int.reduceLT, Int.reduceLE, Int.reduceEq, Int.reduceToNat, reduceCtorEq, reduceIte, Nat.zero_add, Nat.add_zero, *]
  refine CALL_con0 HM.out (by simp only [List.append_nil, encT_brw, brw_ag, Option.map_some, brwL_cons, brwL_nil]) ?_
  cases hm : mayF t with
  | false =>
    simp (maxSteps := 1000000) (disch := omega) only [go_sem, wrapI, wrapB, upd_is, upd_not, Nat.reduceAdd, Nat.reduceSub, Nat.reduceMul, Nat.reduceLeDiff, Nat.reduceEqDiff, Int.reduceAdd, Int.reduceSub, Int.reduceMul, Int.reduceNeg, Int.reduceLT, Int.reduceLE, Int.reduceEq, Int.reduceToNat, reduceCtorEq, reduceIte, Nat.zero_add, Nat.add_zero, *]
    rw [← HR.out]; exact RC_ret rfl (by simp [hm])
  | true =>
    have HRM := Lib.hid hm; clear hm HM
    obtain ⟨name, columns, key, indexes⟩ := t
    simp only at hcl hil
    simp (maxSteps := 1000000) (disch := omega) only [encT, go_sem, wrapI, wrapB, upd_is, upd_not, Nat.reduceAdd, Nat.reduceSub, Nat.reduceMul, Nat.reduceLeDiff, Nat.reduceEqDiff, Int.reduceAdd, Int.reduceSub, Int.reduceMul, Int.reduceNeg, Int.reduceLT, Int.reduceLE, Int.reduceEq, Int.reduceToNat, reduceCtorEq, reduceIte, Nat.zero_add, Nat.add_zero, *]
    refine callD_con0 (HT name).out rfl ?_
    simp (maxSteps := 1000000) (disch := omega) only [go_sem, wrapI, wrapB, upd_is, upd_not, Nat.reduceAdd, Nat.reduceSub, Nat.reduceMul, Nat.reduceLeDiff, Nat.reduceEqDiff, Int.reduceAdd, Int.reduceSub, Int.reduceMul, Int.reduceNeg, Int.reduceLT, Int.reduceLE, Int.reduceEq, Int.reduceToNat, reduceCtorEq, reduceIte, Nat.zero_add, Nat.add_zero, *]
    refine callD_con0 (HN key).out rfl ?_
    simp (maxSteps := 1000000) (disch := omega) only [go_sem, wrapI, wrapB, upd_is, upd_not, Nat.reduceAdd, Nat.reduceSub, Nat.reduceMul, Nat.reduceLeDiff, Nat.reduceEqDiff, Int.reduceAdd, Int.reduceSub, Int.reduceMul, Int.reduceNeg, Int.reduceLT, Int.reduceLE, Int.reduceEq, Int.reduceToNat, reduceCtorEq, reduceIte, Nat.zero_add, Nat.add_zero, *]
    refine callD_con0 (HN columns.length).out rfl ?_
    simp (maxSteps := 1000000) (disch := omega) only [go_sem, wrapI, wrapB, upd_is, upd_not, Nat.reduceAdd, Nat.reduceSub, Nat.reduceMul, Nat.reduceLeDiff, Nat.reduceEqDiff, Int.reduceAdd, Int.reduceSub, Int.reduceMul, Int.reduceNeg, Int.reduceLT, Int.reduceLE, Int.reduceEq, Int.reduceToNat, reduceCtorEq, reduceIte, Nat.zero_add, Nat.add_zero, *]
    refine fun n1 hn1 hb1 => ?_
    refine LOOP_listM columns (fun i s σ' n' => ∃ a b id, s = [a, b, .ow id 3 0 (3 + 3 * i), .sc (.int .i64 i)] ∧ id < n' ∧ 0 < id ∧ σ' 0 = some (.c ⟨4, [[.s name, .tr (columns.map encC), .sc (.int .i64 key), .tr (indexes.map encX)]], true, false⟩) ∧
        σ' id = some (.c ⟨3, (preA name key columns i).map encV, true, true⟩)) (.refl ⟨_, _, 176, rfl, by omega, by omega, ?_, ?_⟩) ?_ ?_
    · simp (disch := omega) only [upd_not, upd_is]
    · simp (disch := omega) only [upd_not, upd_is]; rfl
    · rintro i c K s σ' n' hx hi hi' hn ⟨a, b, id, rfl, hid, hid0, h0, hs⟩ hK
      have HK := Lib.hid hK; clear hK
      obtain ⟨P, hP⟩ : ∃ P, P = (preA name key columns i).map encV := ⟨_, rfl⟩
      have hPl : P.length = 3 + 3 * i := by rw [hP]; exact preA_len (by omega)
      have HNX := Lib.hid (preA_next (name := name) (key := key) hx)
      rw [← hP] at HNX
      rw [← hP] at hs
      clear hP
      have c1 : (3 + 3 * (i + 1)) * 32 ≤ 140737488355328 := by omega
      have c2 : 3 + 3 * i + 3 = 3 + 3 * (i + 1) := by omega
      have g1 : ¬ id = n' := by omega
      have g2 : ¬ id = n' + 16 + 16 + 176 := by omega
      simp (maxSteps := 1000000) (disch := omega) only [lb_catalog_Encode8, encC, go_sem, wrapI, wrapB, upd_is, upd_not, Nat.reduceAdd, Nat.reduceSub, Nat.reduceMul, Nat.reduceLeDiff, Nat.reduceEqDiff, Int.reduceAdd, Int.reduceSub, Int.reduceMul, Int.reduceNeg, Int.reduceLT, Int.reduceLE, Int.reduceEq, Int.reduceToNat, reduceCtorEq, reduceIte, Nat.zero_add, Nat.add_zero, *]
      refine callD_con0 (HT c.name).out rfl ?_
      simp (maxSteps := 1000000) (disch := omega) only [go_sem, wrapI, wrapB, upd_is, upd_not, Nat.reduceAdd, Nat.reduceSub, Nat.reduceMul, Nat.reduceLeDiff, Nat.reduceEqDiff, Int.reduceAdd, Int.reduceSub, Int.reduceMul, Int.reduceNeg, Int.reduceLT, Int.reduceLE, Int.reduceEq, Int.reduceToNat, reduceCtorEq, reduceIte, Nat.zero_add, Nat.add_zero, *]
      refine callD_con0 (HN c.kind).out rfl ?_
      simp (maxSteps := 1000000) (disch := omega) only [go_sem, wrapI, wrapB, upd_is, upd_not, Nat.reduceAdd, Nat.reduceSub, Nat.reduceMul, Nat.reduceLeDiff, Nat.reduceEqDiff, Int.reduceAdd, Int.reduceSub, Int.reduceMul, Int.reduceNeg, Int.reduceLT, Int.reduceLE, Int.reduceEq, Int.reduceToNat, reduceCtorEq, reduceIte, Nat.zero_add, Nat.add_zero, *]
      refine callD_con0 (HB c.notNull).out rfl ?_
      simp (maxSteps := 1000000) (disch := omega) only [go_sem, wrapI, wrapB, upd_is, upd_not, Nat.reduceAdd, Nat.reduceSub, Nat.reduceMul, Nat.reduceLeDiff, Nat.reduceEqDiff, Int.reduceAdd, Int.reduceSub, Int.reduceMul, Int.reduceNeg, Int.reduceLT, Int.reduceLE, Int.reduceEq, Int.reduceToNat, reduceCtorEq, reduceIte, Nat.zero_add, Nat.add_zero, *]
      refine fun n_ hn_ => HK.out _ _ _ (.refl ⟨_, _, n' + 16 + 16 + 176, rfl, by omega, by omega, ?_, ?_⟩)
      · simp (disch := omega) only [upd_not]; exact h0
      · rw [HNX.out]; simp (disch := omega) only [upd_not, upd_is]
    · rintro K s σ' n' hn ⟨a, b, id, rfl, hid, hid0, h0, hs⟩
      simp (maxSteps := 1000000) (disch := omega) only [lb_catalog_Encode8, Int.lt_irrefl, go_sem, wrapI, wrapB, upd_is, upd_not, Nat.reduceAdd, Nat.reduceSub, Nat.reduceMul, Nat.reduceLeDiff, Nat.reduceEqDiff, Int.reduceAdd, Int.reduceSub, Int.reduceMul, Int.reduceNeg, Int.reduceLT, Int.reduceLE, Int.reduceEq, Int.reduceToNat, reduceCtorEq, reduceIte, Nat.zero_add, Nat.add_zero, *]
      intro hb2
      refine CALL_con0 (HN indexes.length).out rfl ?_
      obtain ⟨P, hP⟩ : ∃ P, P = (preA name key columns columns.length).map encV := ⟨_, rfl⟩
      have hPl : P.length = 3 + 3 * columns.length := by rw [hP]; exact preA_len (Nat.le_refl _)
      have HNX := Lib.hid (preB_zero (name := name) (key := key) (columns := columns) (indexes := indexes))
      rw [← hP] at HNX
      rw [← hP] at hs
      clear hP
      have c1 : (3 + 3 * columns.length + 1) * 32 ≤ 140737488355328 := by omega
      have g2 : ¬ id = n' + 16 := by omega
      have g3 : ¬ id = n' := by omega
      simp (maxSteps := 1000000) (disch := omega) only [go_sem, wrapI, wrapB, upd_is, upd_not, Nat.reduceAdd, Nat.reduceSub, Nat.reduceMul, Nat.reduceLeDiff, Nat.reduceEqDiff, Int.reduceAdd, Int.reduceSub, Int.reduceMul, Int.reduceNeg, Int.reduceLT, Int.reduceLE, Int.reduceEq, Int.reduceToNat, reduceCtorEq, reduceIte, Nat.zero_add, Nat.add_zero, *]
      refine LOOP_listM indexes (fun i s σ' n' => ∃ a b id, s = [a, b, .ow id 3 0 (3 + 3 * columns.length + 1 + 2 * i), .sc (.int .i64 i)] ∧ id < n' ∧ 0 < id ∧
          σ' id = some (.c ⟨3, (preB name key columns indexes i).map encV, true, true⟩)) (.refl ⟨_, _, n' + 16, rfl, by omega, by omega, ?_⟩) ?_ ?_
      · simp (disch := omega) only [upd_not, upd_is]
        rw [HNX.out]
      · clear hid hid0 h0 hs g2 g3 hn
        rintro i c K s σ' n' hx hi hi' hn ⟨a, b, id, rfl, hid, hid0, hs⟩ hK
        have HK := Lib.hid hK; clear hK
        clear HNX hPl P
        obtain ⟨P, hP⟩ : ∃ P, P = (preB name key columns indexes i).map encV := ⟨_, rfl⟩
        have hPl : P.length = 3 + 3 * columns.length + 1 + 2 * i := by rw [hP]; exact preB_len (by omega)
        have HNX := Lib.hid (preB_next (name := name) (key := key) (columns := columns) hx)
        rw [← hP] at HNX
        rw [← hP] at hs
        clear hP
        clear c1
        have c1 := bnd_enc hcl hil hi
        have c2 : 3 + 3 * columns.length + 1 + 2 * i + 2 = 3 + 3 * columns.length + 1 + 2 * (i + 1) := by omega
        have g1 : ¬ id = n' := by omega
        have g2 : ¬ id = n' + 16 + 16 + 128 := by omega
        simp (maxSteps := 1000000) (disch := omega) only [lb_catalog_Encode6, encX, go_sem, wrapI, wrapB, upd_is, upd_not, Nat.reduceAdd, Nat.reduceSub, Nat.reduceMul, Nat.reduceLeDiff, Nat.reduceEqDiff, Int.reduceAdd, Int.reduceSub, Int.reduceMul, Int.reduceNeg, Int.reduceLT, Int.reduceLE, Int.reduceEq, Int.reduceToNat, reduceCtorEq, reduceIte, Nat.zero_add, Nat.add_zero, *]
        refine callD_con0 (HT c.name).out rfl ?_
        simp (maxSteps := 1000000) (disch := omega) only [go_sem, wrapI, wrapB, upd_is, upd_not, Nat.reduceAdd, Nat.reduceSub, Nat.reduceMul, Nat.reduceLeDiff, Nat.reduceEqDiff, Int.reduceAdd, Int.reduceSub, Int.reduceMul, Int.reduceNeg, Int.reduceLT, Int.reduceLE, Int.reduceEq, Int.reduceToNat, reduceCtorEq, reduceIte, Nat.zero_add, Nat.add_zero, *]
        refine callD_con0 (HN c.at_).out rfl ?_
        simp (maxSteps := 1000000) (disch := omega) only [go_sem, wrapI, wrapB, upd_is, upd_not, Nat.reduceAdd, Nat.reduceSub, Nat.reduceMul, Nat.reduceLeDiff, Nat.reduceEqDiff, Int.reduceAdd, Int.reduceSub, Int.reduceMul, Int.reduceNeg, Int.reduceLT, Int.reduceLE, Int.reduceEq, Int.reduceToNat, reduceCtorEq, reduceIte, Nat.zero_add, Nat.add_zero, *]
        clear c1
        refine fun n_ hn_ => HK.out _ _ _ (.refl ⟨_, _, n' + 16 + 16 + 128, rfl, by omega, by omega, ?_⟩)
        rw [HNX.out]; simp (disch := omega) only [upd_not, upd_is]
      · rintro K s σ' n' hn ⟨a, b, id, rfl, hid, hid0, hs⟩
        simp (maxSteps := 1000000) (disch := omega) only [lb_catalog_Encode6, Int.lt_irrefl, go_sem, wrapI, wrapB, upd_is, upd_not, Nat.reduceAdd, Nat.reduceSub, Nat.reduceMul, Nat.reduceLeDiff, Nat.reduceEqDiff, Int.reduceAdd, Int.reduceSub, Int.reduceMul, Int.reduceNeg, Int.reduceLT, Int.reduceLE, Int.reduceEq, Int.reduceToNat, reduceCtorEq, reduceIte, Nat.zero_add, Nat.add_zero, *]
        rw [← HR.out, HRM.out, if_pos rfl]
        have hl := preB_len (name := name) (key := key) (columns := columns) (indexes := indexes) (Nat.le_refl _)
        refine RC_ret (I := [id]) ?_ rfl
        simp only [brw_tp, brwL_cons, brwL_nil, brw_sc]
        rw [brw_all hs hl (by omega), preB_end]
        rfl
end Go.Proofs.Ytlhnncmflnjinaa
