/- Packed by a program of this repo: Qc. -/
import Derived.Test.YtodoejfkjimeaaaDoorKRQa
set_option linter.unusedSimpArgs false
set_option linter.unusedVariables false
set_option maxRecDepth 100000
namespace Go.Proofs.YtodoejfkjimeaaaDoor
open Go Go.RowKit Am
attribute [-go_sem] guardP_if guardK_if guardD_if COND_bool
attribute [local go_sem low] guardP_if guardK_if guardD_if COND_bool

theorem or_guard (b : Bool) (k c : Int) (K : AV → Prop) : (guardP (.sc (.bool b)) false (some (.sc (.int .i64 k))) fun v5 => guardP (.sc (.bool b)) false (semBin .eql v5 (.sc (.int .i64 c))) fun v6 => bindP (aPick (.sc (.bool b)) (.sc (.bool true)) v6) K) = K (.sc (.bool (b || decide (k = c)))) := by
  cases b
  · simp (maxSteps:=1000000) (disch:=omega) only [Bool.false_or,go_sem,wrapI,wrapB,upd_is,upd_not,Nat.reduceAdd,Nat.reduceSub,Nat.reduceMul,Nat.reduceLeDiff,Nat.reduceEqDiff,Int.reduceAdd,Int.reduceSub,Int.reduceMul,Int.reduceNeg,Int.reduceLT,Int.reduceLE,Int.reduceEq,Int.reduceToNat,reduceCtorEq,reduceIte,Nat.zero_add,Nat.add_zero, *]
  · simp (maxSteps:=1000000) (disch:=omega) only [Bool.true_or,go_sem,wrapI,wrapB,upd_is,upd_not,Nat.reduceAdd,Nat.reduceSub,Nat.reduceMul,Nat.reduceLeDiff,Nat.reduceEqDiff,Int.reduceAdd,Int.reduceSub,Int.reduceMul,Int.reduceNeg,Int.reduceLT,Int.reduceLE,Int.reduceEq,Int.reduceToNat,reduceCtorEq,reduceIte,Nat.zero_add,Nat.add_zero, *]
theorem or_guard2 (b : Bool) (k c : Int) (K : AV → Prop) : (guardP (.sc (.bool b)) false (some (.sc (.int .i64 k))) fun v5 => guardP (.sc (.bool b)) false (semBin .eql v5 (.sc (.int .i64 c))) fun v6 => guardP (.sc (.bool true)) true (aPick (.sc (.bool b)) (.sc (.bool true)) v6) K) = K (.sc (.bool (b || decide (k = c)))) := by
  cases b
  · simp (maxSteps:=1000000) (disch:=omega) only [Bool.false_or,go_sem,wrapI,wrapB,upd_is,upd_not,Nat.reduceAdd,Nat.reduceSub,Nat.reduceMul,Nat.reduceLeDiff,Nat.reduceEqDiff,Int.reduceAdd,Int.reduceSub,Int.reduceMul,Int.reduceNeg,Int.reduceLT,Int.reduceLE,Int.reduceEq,Int.reduceToNat,reduceCtorEq,reduceIte,Nat.zero_add,Nat.add_zero, *]
  · simp (maxSteps:=1000000) (disch:=omega) only [Bool.true_or,go_sem,wrapI,wrapB,upd_is,upd_not,Nat.reduceAdd,Nat.reduceSub,Nat.reduceMul,Nat.reduceLeDiff,Nat.reduceEqDiff,Int.reduceAdd,Int.reduceSub,Int.reduceMul,Int.reduceNeg,Int.reduceLT,Int.reduceLE,Int.reduceEq,Int.reduceToNat,reduceCtorEq,reduceIte,Nat.zero_add,Nat.add_zero, *]
attribute [local go_sem ↓ high] or_guard or_guard2
theorem CALL_bool {P : Program} {g : FuncId} {caps args cs : List AV} {b : Bool} {σ : Hp} {n : Nat} {K : AEnd → Hp → Nat → Prop} (h : Con P g cs (.ret (.sc (.bool b)))) (hb : brwL σ 6 (args ++ caps) = some (cs, []))
    (ht : b = true → K (.ret (.sc (.bool true))) σ n) (hf : b = false → K (.ret (.sc (.bool false))) σ n) : CALL P (.fn g caps) args σ n K := by
  refine CALL_con0 h hb ?_
  cases b
  · exact hf rfl
  · exact ht rfl
def shapeF (x : Sm) : Bool :=
  namedF x.table (decide (x.kind ≤ 7)) && namedF x.key (decide (x.kind = 1) || decide (x.kind = 2)) && namedF x.index (decide (x.kind = 2)) && (decide (x.join = []) || (decide (x.kind = 7) && nameL x.join))
   && countF x.columns.length 8 (decide (x.kind = 1)) 1 && countF x.rows.length 16 (decide (x.kind = 4)) 1 && countF x.sets.length 8 (decide (x.kind = 5)) 1 && countF x.items.length 16 (decide (x.kind = 7)) 1
   && countF x.on.length 1 (!decide (x.join = [])) 1 && countF x.where_.length 1 (decide (x.kind = 5) || decide (x.kind = 6) || decide (x.kind = 7)) 0 && countF x.group.length 1 (decide (x.kind = 7)) 0 && countF x.order.length 8 (decide (x.kind = 7)) 0
   && (if x.kind = 7 then decide (-1 ≤ x.limit) && decide (x.limit ≤ 2147483648) else decide (x.limit = 0))
   && !x.columns.any colBad && !x.rows.any rowBad && !x.sets.any setBad && !x.order.any ordBad
set_option maxHeartbeats 8000000 in
theorem shape_con (x : Sm) (hb : SBd x) : Con Tryd.prog 56 [.ag (encSm x)] (.ret (.sc (.bool (shapeF x)))) := by
  refine con_of (by_syntax_shape ?_)
  obtain ⟨kind, table, columns, key, index, rows, sets, items, join, on, wh, group, order, limit⟩ := x
  generalize hR : RC _ = R
  have HR := Lib.hid hR; clear hR
  have HB := Lib.hid hb; clear hb
  have b0 : ∀ σ, brwL σ 6 ([] : List AV) = some ([], []) := fun _ => rfl
  have b1 : ∀ σ, brwL σ 5 ([] : List AV) = some ([], []) := fun _ => rfl
  have NT := fun b => Lib.hid (named_con table b HB.out.table)
  have NK := fun b => Lib.hid (named_con key b HB.out.key)
  have NI := fun b => Lib.hid (named_con index b HB.out.index)
  have NJ := Lib.hid (name_con join (by have := HB.out.join; simp only at this; omega))
  have CC := Lib.hid (cfCol_con 92 [] colBad columns b0 b1 (fun c hc => colBad_con c (HB.out.col c hc)))
  have CR := Lib.hid (cfR_con 94 [] rowBad rows b0 b1 (fun l hl => rowBad_con l (HB.out.row l hl).len))
  have CS := Lib.hid (cfS_con 96 [] setBad sets b0 b1 (fun s hs => setBad_con s (HB.out.set s hs).1))
  have CO := Lib.hid (cfO_con 98 [] ordBad order b0 b1 (fun c _ => ordBad_con c))
  clear b0 b1
  by_cases h7 : kind = 7
  ·
    simp (maxSteps:=1000000) (disch:=omega) only [sh_syntax_shape,encSm,Bool.or_false,Bool.false_or,Bool.or_true,Bool.true_or,bin_geq,bin_leq,go_sem,wrapI,wrapB,upd_is,upd_not,Nat.reduceAdd,Nat.reduceSub,Nat.reduceMul,Nat.reduceLeDiff,Nat.reduceEqDiff,Int.reduceAdd,Int.reduceSub,Int.reduceMul,Int.reduceNeg,Int.reduceLT,Int.reduceLE,Int.reduceEq,Int.reduceToNat,reduceCtorEq,reduceIte,Nat.zero_add,Nat.add_zero, *]
    refine CALL_bool (NT _).out rfl (fun h1 => ?_) (fun h1 => ?_)
    rotate_left
    · simp (maxSteps:=1000000) (disch:=omega) only [Bool.or_false,Bool.false_or,Bool.or_true,Bool.true_or,bin_geq,bin_leq,go_sem,wrapI,wrapB,upd_is,upd_not,Nat.reduceAdd,Nat.reduceSub,Nat.reduceMul,Nat.reduceLeDiff,Nat.reduceEqDiff,Int.reduceAdd,Int.reduceSub,Int.reduceMul,Int.reduceNeg,Int.reduceLT,Int.reduceLE,Int.reduceEq,Int.reduceToNat,reduceCtorEq,reduceIte,Nat.zero_add,Nat.add_zero, *]
      rw [← HR.out]; exact RC_ret rfl (by simp_all [shapeF, -List.any_eq_true, -List.any_eq_false] <;> (intros; omega))
    simp (maxSteps:=1000000) (disch:=omega) only [Bool.or_false,Bool.false_or,Bool.or_true,Bool.true_or,bin_geq,bin_leq,go_sem,wrapI,wrapB,upd_is,upd_not,Nat.reduceAdd,Nat.reduceSub,Nat.reduceMul,Nat.reduceLeDiff,Nat.reduceEqDiff,Int.reduceAdd,Int.reduceSub,Int.reduceMul,Int.reduceNeg,Int.reduceLT,Int.reduceLE,Int.reduceEq,Int.reduceToNat,reduceCtorEq,reduceIte,Nat.zero_add,Nat.add_zero, *]
    refine CALL_bool (NK _).out rfl (fun h2 => ?_) (fun h2 => ?_)
    rotate_left
    · simp (maxSteps:=1000000) (disch:=omega) only [Bool.or_false,Bool.false_or,Bool.or_true,Bool.true_or,bin_geq,bin_leq,go_sem,wrapI,wrapB,upd_is,upd_not,Nat.reduceAdd,Nat.reduceSub,Nat.reduceMul,Nat.reduceLeDiff,Nat.reduceEqDiff,Int.reduceAdd,Int.reduceSub,Int.reduceMul,Int.reduceNeg,Int.reduceLT,Int.reduceLE,Int.reduceEq,Int.reduceToNat,reduceCtorEq,reduceIte,Nat.zero_add,Nat.add_zero, *]
      rw [← HR.out]; exact RC_ret rfl (by simp_all [shapeF, -List.any_eq_true, -List.any_eq_false] <;> (intros; omega))
    simp (maxSteps:=1000000) (disch:=omega) only [Bool.or_false,Bool.false_or,Bool.or_true,Bool.true_or,bin_geq,bin_leq,go_sem,wrapI,wrapB,upd_is,upd_not,Nat.reduceAdd,Nat.reduceSub,Nat.reduceMul,Nat.reduceLeDiff,Nat.reduceEqDiff,Int.reduceAdd,Int.reduceSub,Int.reduceMul,Int.reduceNeg,Int.reduceLT,Int.reduceLE,Int.reduceEq,Int.reduceToNat,reduceCtorEq,reduceIte,Nat.zero_add,Nat.add_zero, *]
    refine CALL_bool (NI _).out rfl (fun h3 => ?_) (fun h3 => ?_)
    rotate_left
    · simp (maxSteps:=1000000) (disch:=omega) only [Bool.or_false,Bool.false_or,Bool.or_true,Bool.true_or,bin_geq,bin_leq,go_sem,wrapI,wrapB,upd_is,upd_not,Nat.reduceAdd,Nat.reduceSub,Nat.reduceMul,Nat.reduceLeDiff,Nat.reduceEqDiff,Int.reduceAdd,Int.reduceSub,Int.reduceMul,Int.reduceNeg,Int.reduceLT,Int.reduceLE,Int.reduceEq,Int.reduceToNat,reduceCtorEq,reduceIte,Nat.zero_add,Nat.add_zero, *]
      rw [← HR.out]; exact RC_ret rfl (by simp_all [shapeF, -List.any_eq_true, -List.any_eq_false] <;> (intros; omega))
    simp (maxSteps:=1000000) (disch:=omega) only [Bool.or_false,Bool.false_or,Bool.or_true,Bool.true_or,bin_geq,bin_leq,go_sem,wrapI,wrapB,upd_is,upd_not,Nat.reduceAdd,Nat.reduceSub,Nat.reduceMul,Nat.reduceLeDiff,Nat.reduceEqDiff,Int.reduceAdd,Int.reduceSub,Int.reduceMul,Int.reduceNeg,Int.reduceLT,Int.reduceLE,Int.reduceEq,Int.reduceToNat,reduceCtorEq,reduceIte,Nat.zero_add,Nat.add_zero, *]
    by_cases hj : join = []
    · simp (maxSteps:=1000000) (disch:=omega) only [Bool.or_false,Bool.false_or,Bool.or_true,Bool.true_or,bin_geq,bin_leq,go_sem,wrapI,wrapB,upd_is,upd_not,Nat.reduceAdd,Nat.reduceSub,Nat.reduceMul,Nat.reduceLeDiff,Nat.reduceEqDiff,Int.reduceAdd,Int.reduceSub,Int.reduceMul,Int.reduceNeg,Int.reduceLT,Int.reduceLE,Int.reduceEq,Int.reduceToNat,reduceCtorEq,reduceIte,Nat.zero_add,Nat.add_zero, *]
      refine CALL_bool (count_con _ _ _ _) rfl (fun h4 => ?_) (fun h4 => ?_)
      rotate_left
      · simp (maxSteps:=1000000) (disch:=omega) only [Bool.or_false,Bool.false_or,Bool.or_true,Bool.true_or,bin_geq,bin_leq,go_sem,wrapI,wrapB,upd_is,upd_not,Nat.reduceAdd,Nat.reduceSub,Nat.reduceMul,Nat.reduceLeDiff,Nat.reduceEqDiff,Int.reduceAdd,Int.reduceSub,Int.reduceMul,Int.reduceNeg,Int.reduceLT,Int.reduceLE,Int.reduceEq,Int.reduceToNat,reduceCtorEq,reduceIte,Nat.zero_add,Nat.add_zero, *]
        rw [← HR.out]; exact RC_ret rfl (by simp_all [shapeF, -List.any_eq_true, -List.any_eq_false] <;> (intros; omega))
      simp (maxSteps:=1000000) (disch:=omega) only [Bool.or_false,Bool.false_or,Bool.or_true,Bool.true_or,bin_geq,bin_leq,go_sem,wrapI,wrapB,upd_is,upd_not,Nat.reduceAdd,Nat.reduceSub,Nat.reduceMul,Nat.reduceLeDiff,Nat.reduceEqDiff,Int.reduceAdd,Int.reduceSub,Int.reduceMul,Int.reduceNeg,Int.reduceLT,Int.reduceLE,Int.reduceEq,Int.reduceToNat,reduceCtorEq,reduceIte,Nat.zero_add,Nat.add_zero, *]
      refine CALL_bool (count_con _ _ _ _) rfl (fun h5 => ?_) (fun h5 => ?_)
      rotate_left
      · simp (maxSteps:=1000000) (disch:=omega) only [Bool.or_false,Bool.false_or,Bool.or_true,Bool.true_or,bin_geq,bin_leq,go_sem,wrapI,wrapB,upd_is,upd_not,Nat.reduceAdd,Nat.reduceSub,Nat.reduceMul,Nat.reduceLeDiff,Nat.reduceEqDiff,Int.reduceAdd,Int.reduceSub,Int.reduceMul,Int.reduceNeg,Int.reduceLT,Int.reduceLE,Int.reduceEq,Int.reduceToNat,reduceCtorEq,reduceIte,Nat.zero_add,Nat.add_zero, *]
        rw [← HR.out]; exact RC_ret rfl (by simp_all [shapeF, -List.any_eq_true, -List.any_eq_false] <;> (intros; omega))
      simp (maxSteps:=1000000) (disch:=omega) only [Bool.or_false,Bool.false_or,Bool.or_true,Bool.true_or,bin_geq,bin_leq,go_sem,wrapI,wrapB,upd_is,upd_not,Nat.reduceAdd,Nat.reduceSub,Nat.reduceMul,Nat.reduceLeDiff,Nat.reduceEqDiff,Int.reduceAdd,Int.reduceSub,Int.reduceMul,Int.reduceNeg,Int.reduceLT,Int.reduceLE,Int.reduceEq,Int.reduceToNat,reduceCtorEq,reduceIte,Nat.zero_add,Nat.add_zero, *]
      refine CALL_bool (count_con _ _ _ _) rfl (fun h6 => ?_) (fun h6 => ?_)
      rotate_left
      · simp (maxSteps:=1000000) (disch:=omega) only [Bool.or_false,Bool.false_or,Bool.or_true,Bool.true_or,bin_geq,bin_leq,go_sem,wrapI,wrapB,upd_is,upd_not,Nat.reduceAdd,Nat.reduceSub,Nat.reduceMul,Nat.reduceLeDiff,Nat.reduceEqDiff,Int.reduceAdd,Int.reduceSub,Int.reduceMul,Int.reduceNeg,Int.reduceLT,Int.reduceLE,Int.reduceEq,Int.reduceToNat,reduceCtorEq,reduceIte,Nat.zero_add,Nat.add_zero, *]
        rw [← HR.out]; exact RC_ret rfl (by simp_all [shapeF, -List.any_eq_true, -List.any_eq_false] <;> (intros; omega))
      simp (maxSteps:=1000000) (disch:=omega) only [Bool.or_false,Bool.false_or,Bool.or_true,Bool.true_or,bin_geq,bin_leq,go_sem,wrapI,wrapB,upd_is,upd_not,Nat.reduceAdd,Nat.reduceSub,Nat.reduceMul,Nat.reduceLeDiff,Nat.reduceEqDiff,Int.reduceAdd,Int.reduceSub,Int.reduceMul,Int.reduceNeg,Int.reduceLT,Int.reduceLE,Int.reduceEq,Int.reduceToNat,reduceCtorEq,reduceIte,Nat.zero_add,Nat.add_zero, *]
      refine CALL_bool (count_con _ _ _ _) rfl (fun h7 => ?_) (fun h7 => ?_)
      rotate_left
      · simp (maxSteps:=1000000) (disch:=omega) only [Bool.or_false,Bool.false_or,Bool.or_true,Bool.true_or,bin_geq,bin_leq,go_sem,wrapI,wrapB,upd_is,upd_not,Nat.reduceAdd,Nat.reduceSub,Nat.reduceMul,Nat.reduceLeDiff,Nat.reduceEqDiff,Int.reduceAdd,Int.reduceSub,Int.reduceMul,Int.reduceNeg,Int.reduceLT,Int.reduceLE,Int.reduceEq,Int.reduceToNat,reduceCtorEq,reduceIte,Nat.zero_add,Nat.add_zero, *]
        rw [← HR.out]; exact RC_ret rfl (by simp_all [shapeF, -List.any_eq_true, -List.any_eq_false] <;> (intros; omega))
      simp (maxSteps:=1000000) (disch:=omega) only [Bool.or_false,Bool.false_or,Bool.or_true,Bool.true_or,bin_geq,bin_leq,go_sem,wrapI,wrapB,upd_is,upd_not,Nat.reduceAdd,Nat.reduceSub,Nat.reduceMul,Nat.reduceLeDiff,Nat.reduceEqDiff,Int.reduceAdd,Int.reduceSub,Int.reduceMul,Int.reduceNeg,Int.reduceLT,Int.reduceLE,Int.reduceEq,Int.reduceToNat,reduceCtorEq,reduceIte,Nat.zero_add,Nat.add_zero, *]
      refine CALL_bool (count_con _ _ _ _) rfl (fun h8 => ?_) (fun h8 => ?_)
      rotate_left
      · simp (maxSteps:=1000000) (disch:=omega) only [Bool.or_false,Bool.false_or,Bool.or_true,Bool.true_or,bin_geq,bin_leq,go_sem,wrapI,wrapB,upd_is,upd_not,Nat.reduceAdd,Nat.reduceSub,Nat.reduceMul,Nat.reduceLeDiff,Nat.reduceEqDiff,Int.reduceAdd,Int.reduceSub,Int.reduceMul,Int.reduceNeg,Int.reduceLT,Int.reduceLE,Int.reduceEq,Int.reduceToNat,reduceCtorEq,reduceIte,Nat.zero_add,Nat.add_zero, *]
        rw [← HR.out]; exact RC_ret rfl (by simp_all [shapeF, -List.any_eq_true, -List.any_eq_false] <;> (intros; omega))
      simp (maxSteps:=1000000) (disch:=omega) only [Bool.or_false,Bool.false_or,Bool.or_true,Bool.true_or,bin_geq,bin_leq,go_sem,wrapI,wrapB,upd_is,upd_not,Nat.reduceAdd,Nat.reduceSub,Nat.reduceMul,Nat.reduceLeDiff,Nat.reduceEqDiff,Int.reduceAdd,Int.reduceSub,Int.reduceMul,Int.reduceNeg,Int.reduceLT,Int.reduceLE,Int.reduceEq,Int.reduceToNat,reduceCtorEq,reduceIte,Nat.zero_add,Nat.add_zero, *]
      refine CALL_bool (count_con _ _ _ _) rfl (fun h9 => ?_) (fun h9 => ?_)
      rotate_left
      · simp (maxSteps:=1000000) (disch:=omega) only [Bool.or_false,Bool.false_or,Bool.or_true,Bool.true_or,bin_geq,bin_leq,go_sem,wrapI,wrapB,upd_is,upd_not,Nat.reduceAdd,Nat.reduceSub,Nat.reduceMul,Nat.reduceLeDiff,Nat.reduceEqDiff,Int.reduceAdd,Int.reduceSub,Int.reduceMul,Int.reduceNeg,Int.reduceLT,Int.reduceLE,Int.reduceEq,Int.reduceToNat,reduceCtorEq,reduceIte,Nat.zero_add,Nat.add_zero, *]
        rw [← HR.out]; exact RC_ret rfl (by simp_all [shapeF, -List.any_eq_true, -List.any_eq_false] <;> (intros; omega))
      simp (maxSteps:=1000000) (disch:=omega) only [Bool.or_false,Bool.false_or,Bool.or_true,Bool.true_or,bin_geq,bin_leq,go_sem,wrapI,wrapB,upd_is,upd_not,Nat.reduceAdd,Nat.reduceSub,Nat.reduceMul,Nat.reduceLeDiff,Nat.reduceEqDiff,Int.reduceAdd,Int.reduceSub,Int.reduceMul,Int.reduceNeg,Int.reduceLT,Int.reduceLE,Int.reduceEq,Int.reduceToNat,reduceCtorEq,reduceIte,Nat.zero_add,Nat.add_zero, *]
      refine CALL_bool (count_con _ _ _ _) rfl (fun h10 => ?_) (fun h10 => ?_)
      rotate_left
      · simp (maxSteps:=1000000) (disch:=omega) only [Bool.or_false,Bool.false_or,Bool.or_true,Bool.true_or,bin_geq,bin_leq,go_sem,wrapI,wrapB,upd_is,upd_not,Nat.reduceAdd,Nat.reduceSub,Nat.reduceMul,Nat.reduceLeDiff,Nat.reduceEqDiff,Int.reduceAdd,Int.reduceSub,Int.reduceMul,Int.reduceNeg,Int.reduceLT,Int.reduceLE,Int.reduceEq,Int.reduceToNat,reduceCtorEq,reduceIte,Nat.zero_add,Nat.add_zero, *]
        rw [← HR.out]; exact RC_ret rfl (by simp_all [shapeF, -List.any_eq_true, -List.any_eq_false] <;> (intros; omega))
      simp (maxSteps:=1000000) (disch:=omega) only [Bool.or_false,Bool.false_or,Bool.or_true,Bool.true_or,bin_geq,bin_leq,go_sem,wrapI,wrapB,upd_is,upd_not,Nat.reduceAdd,Nat.reduceSub,Nat.reduceMul,Nat.reduceLeDiff,Nat.reduceEqDiff,Int.reduceAdd,Int.reduceSub,Int.reduceMul,Int.reduceNeg,Int.reduceLT,Int.reduceLE,Int.reduceEq,Int.reduceToNat,reduceCtorEq,reduceIte,Nat.zero_add,Nat.add_zero, *]
      refine CALL_bool (count_con _ _ _ _) rfl (fun h11 => ?_) (fun h11 => ?_)
      rotate_left
      · simp (maxSteps:=1000000) (disch:=omega) only [Bool.or_false,Bool.false_or,Bool.or_true,Bool.true_or,bin_geq,bin_leq,go_sem,wrapI,wrapB,upd_is,upd_not,Nat.reduceAdd,Nat.reduceSub,Nat.reduceMul,Nat.reduceLeDiff,Nat.reduceEqDiff,Int.reduceAdd,Int.reduceSub,Int.reduceMul,Int.reduceNeg,Int.reduceLT,Int.reduceLE,Int.reduceEq,Int.reduceToNat,reduceCtorEq,reduceIte,Nat.zero_add,Nat.add_zero, *]
        rw [← HR.out]; exact RC_ret rfl (by simp_all [shapeF, -List.any_eq_true, -List.any_eq_false] <;> (intros; omega))
      simp (maxSteps:=1000000) (disch:=omega) only [Bool.or_false,Bool.false_or,Bool.or_true,Bool.true_or,bin_geq,bin_leq,go_sem,wrapI,wrapB,upd_is,upd_not,Nat.reduceAdd,Nat.reduceSub,Nat.reduceMul,Nat.reduceLeDiff,Nat.reduceEqDiff,Int.reduceAdd,Int.reduceSub,Int.reduceMul,Int.reduceNeg,Int.reduceLT,Int.reduceLE,Int.reduceEq,Int.reduceToNat,reduceCtorEq,reduceIte,Nat.zero_add,Nat.add_zero, *]
      by_cases hl1 : -1 ≤ limit
      rotate_left
      · simp (maxSteps:=1000000) (disch:=omega) only [Bool.or_false,Bool.false_or,Bool.or_true,Bool.true_or,bin_geq,bin_leq,go_sem,wrapI,wrapB,upd_is,upd_not,Nat.reduceAdd,Nat.reduceSub,Nat.reduceMul,Nat.reduceLeDiff,Nat.reduceEqDiff,Int.reduceAdd,Int.reduceSub,Int.reduceMul,Int.reduceNeg,Int.reduceLT,Int.reduceLE,Int.reduceEq,Int.reduceToNat,reduceCtorEq,reduceIte,Nat.zero_add,Nat.add_zero, *]
        rw [← HR.out]; exact RC_ret rfl (by simp_all [shapeF, -List.any_eq_true, -List.any_eq_false] <;> (intros; omega))
      by_cases hl2 : limit ≤ 2147483648
      rotate_left
      · simp (maxSteps:=1000000) (disch:=omega) only [Bool.or_false,Bool.false_or,Bool.or_true,Bool.true_or,bin_geq,bin_leq,go_sem,wrapI,wrapB,upd_is,upd_not,Nat.reduceAdd,Nat.reduceSub,Nat.reduceMul,Nat.reduceLeDiff,Nat.reduceEqDiff,Int.reduceAdd,Int.reduceSub,Int.reduceMul,Int.reduceNeg,Int.reduceLT,Int.reduceLE,Int.reduceEq,Int.reduceToNat,reduceCtorEq,reduceIte,Nat.zero_add,Nat.add_zero, *]
        rw [← HR.out]; exact RC_ret rfl (by simp_all [shapeF, -List.any_eq_true, -List.any_eq_false] <;> (intros; omega))
      simp (maxSteps:=1000000) (disch:=omega) only [Bool.or_false,Bool.false_or,Bool.or_true,Bool.true_or,bin_geq,bin_leq,go_sem,wrapI,wrapB,upd_is,upd_not,Nat.reduceAdd,Nat.reduceSub,Nat.reduceMul,Nat.reduceLeDiff,Nat.reduceEqDiff,Int.reduceAdd,Int.reduceSub,Int.reduceMul,Int.reduceNeg,Int.reduceLT,Int.reduceLE,Int.reduceEq,Int.reduceToNat,reduceCtorEq,reduceIte,Nat.zero_add,Nat.add_zero, *]
      refine CALL_bool CC.out rfl (fun h12 => ?_) (fun h12 => ?_)
      · simp (maxSteps:=1000000) (disch:=omega) only [Bool.or_false,Bool.false_or,Bool.or_true,Bool.true_or,bin_geq,bin_leq,go_sem,wrapI,wrapB,upd_is,upd_not,Nat.reduceAdd,Nat.reduceSub,Nat.reduceMul,Nat.reduceLeDiff,Nat.reduceEqDiff,Int.reduceAdd,Int.reduceSub,Int.reduceMul,Int.reduceNeg,Int.reduceLT,Int.reduceLE,Int.reduceEq,Int.reduceToNat,reduceCtorEq,reduceIte,Nat.zero_add,Nat.add_zero, *]
        rw [← HR.out]; exact RC_ret rfl (by simp_all [shapeF, -List.any_eq_true, -List.any_eq_false] <;> (intros; omega))
      simp (maxSteps:=1000000) (disch:=omega) only [Bool.or_false,Bool.false_or,Bool.or_true,Bool.true_or,bin_geq,bin_leq,go_sem,wrapI,wrapB,upd_is,upd_not,Nat.reduceAdd,Nat.reduceSub,Nat.reduceMul,Nat.reduceLeDiff,Nat.reduceEqDiff,Int.reduceAdd,Int.reduceSub,Int.reduceMul,Int.reduceNeg,Int.reduceLT,Int.reduceLE,Int.reduceEq,Int.reduceToNat,reduceCtorEq,reduceIte,Nat.zero_add,Nat.add_zero, *]
      refine CALL_bool CR.out rfl (fun h13 => ?_) (fun h13 => ?_)
      · simp (maxSteps:=1000000) (disch:=omega) only [Bool.or_false,Bool.false_or,Bool.or_true,Bool.true_or,bin_geq,bin_leq,go_sem,wrapI,wrapB,upd_is,upd_not,Nat.reduceAdd,Nat.reduceSub,Nat.reduceMul,Nat.reduceLeDiff,Nat.reduceEqDiff,Int.reduceAdd,Int.reduceSub,Int.reduceMul,Int.reduceNeg,Int.reduceLT,Int.reduceLE,Int.reduceEq,Int.reduceToNat,reduceCtorEq,reduceIte,Nat.zero_add,Nat.add_zero, *]
        rw [← HR.out]; exact RC_ret rfl (by simp_all [shapeF, -List.any_eq_true, -List.any_eq_false] <;> (intros; omega))
      simp (maxSteps:=1000000) (disch:=omega) only [Bool.or_false,Bool.false_or,Bool.or_true,Bool.true_or,bin_geq,bin_leq,go_sem,wrapI,wrapB,upd_is,upd_not,Nat.reduceAdd,Nat.reduceSub,Nat.reduceMul,Nat.reduceLeDiff,Nat.reduceEqDiff,Int.reduceAdd,Int.reduceSub,Int.reduceMul,Int.reduceNeg,Int.reduceLT,Int.reduceLE,Int.reduceEq,Int.reduceToNat,reduceCtorEq,reduceIte,Nat.zero_add,Nat.add_zero, *]
      refine CALL_bool CS.out rfl (fun h14 => ?_) (fun h14 => ?_)
      · simp (maxSteps:=1000000) (disch:=omega) only [Bool.or_false,Bool.false_or,Bool.or_true,Bool.true_or,bin_geq,bin_leq,go_sem,wrapI,wrapB,upd_is,upd_not,Nat.reduceAdd,Nat.reduceSub,Nat.reduceMul,Nat.reduceLeDiff,Nat.reduceEqDiff,Int.reduceAdd,Int.reduceSub,Int.reduceMul,Int.reduceNeg,Int.reduceLT,Int.reduceLE,Int.reduceEq,Int.reduceToNat,reduceCtorEq,reduceIte,Nat.zero_add,Nat.add_zero, *]
        rw [← HR.out]; exact RC_ret rfl (by simp_all [shapeF, -List.any_eq_true, -List.any_eq_false] <;> (intros; omega))
      simp (maxSteps:=1000000) (disch:=omega) only [Bool.or_false,Bool.false_or,Bool.or_true,Bool.true_or,bin_geq,bin_leq,go_sem,wrapI,wrapB,upd_is,upd_not,Nat.reduceAdd,Nat.reduceSub,Nat.reduceMul,Nat.reduceLeDiff,Nat.reduceEqDiff,Int.reduceAdd,Int.reduceSub,Int.reduceMul,Int.reduceNeg,Int.reduceLT,Int.reduceLE,Int.reduceEq,Int.reduceToNat,reduceCtorEq,reduceIte,Nat.zero_add,Nat.add_zero, *]
      refine CALL_bool CO.out rfl (fun h15 => ?_) (fun h15 => ?_)
      · simp (maxSteps:=1000000) (disch:=omega) only [Bool.or_false,Bool.false_or,Bool.or_true,Bool.true_or,bin_geq,bin_leq,go_sem,wrapI,wrapB,upd_is,upd_not,Nat.reduceAdd,Nat.reduceSub,Nat.reduceMul,Nat.reduceLeDiff,Nat.reduceEqDiff,Int.reduceAdd,Int.reduceSub,Int.reduceMul,Int.reduceNeg,Int.reduceLT,Int.reduceLE,Int.reduceEq,Int.reduceToNat,reduceCtorEq,reduceIte,Nat.zero_add,Nat.add_zero, *]
        rw [← HR.out]; exact RC_ret rfl (by simp_all [shapeF, -List.any_eq_true, -List.any_eq_false] <;> (intros; omega))
      simp (maxSteps:=1000000) (disch:=omega) only [Bool.or_false,Bool.false_or,Bool.or_true,Bool.true_or,bin_geq,bin_leq,go_sem,wrapI,wrapB,upd_is,upd_not,Nat.reduceAdd,Nat.reduceSub,Nat.reduceMul,Nat.reduceLeDiff,Nat.reduceEqDiff,Int.reduceAdd,Int.reduceSub,Int.reduceMul,Int.reduceNeg,Int.reduceLT,Int.reduceLE,Int.reduceEq,Int.reduceToNat,reduceCtorEq,reduceIte,Nat.zero_add,Nat.add_zero, *]
      rw [← HR.out]; exact RC_ret rfl (by simp_all [shapeF, -List.any_eq_true, -List.any_eq_false] <;> (intros; omega))
    · simp (maxSteps:=1000000) (disch:=omega) only [Bool.or_false,Bool.false_or,Bool.or_true,Bool.true_or,bin_geq,bin_leq,go_sem,wrapI,wrapB,upd_is,upd_not,Nat.reduceAdd,Nat.reduceSub,Nat.reduceMul,Nat.reduceLeDiff,Nat.reduceEqDiff,Int.reduceAdd,Int.reduceSub,Int.reduceMul,Int.reduceNeg,Int.reduceLT,Int.reduceLE,Int.reduceEq,Int.reduceToNat,reduceCtorEq,reduceIte,Nat.zero_add,Nat.add_zero, *]
      refine CALL_bool NJ.out rfl (fun h16 => ?_) (fun h16 => ?_)
      rotate_left
      · simp (maxSteps:=1000000) (disch:=omega) only [Bool.or_false,Bool.false_or,Bool.or_true,Bool.true_or,bin_geq,bin_leq,go_sem,wrapI,wrapB,upd_is,upd_not,Nat.reduceAdd,Nat.reduceSub,Nat.reduceMul,Nat.reduceLeDiff,Nat.reduceEqDiff,Int.reduceAdd,Int.reduceSub,Int.reduceMul,Int.reduceNeg,Int.reduceLT,Int.reduceLE,Int.reduceEq,Int.reduceToNat,reduceCtorEq,reduceIte,Nat.zero_add,Nat.add_zero, *]
        rw [← HR.out]; exact RC_ret rfl (by simp_all [shapeF, -List.any_eq_true, -List.any_eq_false] <;> (intros; omega))
      simp (maxSteps:=1000000) (disch:=omega) only [Bool.or_false,Bool.false_or,Bool.or_true,Bool.true_or,bin_geq,bin_leq,go_sem,wrapI,wrapB,upd_is,upd_not,Nat.reduceAdd,Nat.reduceSub,Nat.reduceMul,Nat.reduceLeDiff,Nat.reduceEqDiff,Int.reduceAdd,Int.reduceSub,Int.reduceMul,Int.reduceNeg,Int.reduceLT,Int.reduceLE,Int.reduceEq,Int.reduceToNat,reduceCtorEq,reduceIte,Nat.zero_add,Nat.add_zero, *]
      refine CALL_bool (count_con _ _ _ _) rfl (fun h17 => ?_) (fun h17 => ?_)
      rotate_left
      · simp (maxSteps:=1000000) (disch:=omega) only [Bool.or_false,Bool.false_or,Bool.or_true,Bool.true_or,bin_geq,bin_leq,go_sem,wrapI,wrapB,upd_is,upd_not,Nat.reduceAdd,Nat.reduceSub,Nat.reduceMul,Nat.reduceLeDiff,Nat.reduceEqDiff,Int.reduceAdd,Int.reduceSub,Int.reduceMul,Int.reduceNeg,Int.reduceLT,Int.reduceLE,Int.reduceEq,Int.reduceToNat,reduceCtorEq,reduceIte,Nat.zero_add,Nat.add_zero, *]
        rw [← HR.out]; exact RC_ret rfl (by simp_all [shapeF, -List.any_eq_true, -List.any_eq_false] <;> (intros; omega))
      simp (maxSteps:=1000000) (disch:=omega) only [Bool.or_false,Bool.false_or,Bool.or_true,Bool.true_or,bin_geq,bin_leq,go_sem,wrapI,wrapB,upd_is,upd_not,Nat.reduceAdd,Nat.reduceSub,Nat.reduceMul,Nat.reduceLeDiff,Nat.reduceEqDiff,Int.reduceAdd,Int.reduceSub,Int.reduceMul,Int.reduceNeg,Int.reduceLT,Int.reduceLE,Int.reduceEq,Int.reduceToNat,reduceCtorEq,reduceIte,Nat.zero_add,Nat.add_zero, *]
      refine CALL_bool (count_con _ _ _ _) rfl (fun h18 => ?_) (fun h18 => ?_)
      rotate_left
      · simp (maxSteps:=1000000) (disch:=omega) only [Bool.or_false,Bool.false_or,Bool.or_true,Bool.true_or,bin_geq,bin_leq,go_sem,wrapI,wrapB,upd_is,upd_not,Nat.reduceAdd,Nat.reduceSub,Nat.reduceMul,Nat.reduceLeDiff,Nat.reduceEqDiff,Int.reduceAdd,Int.reduceSub,Int.reduceMul,Int.reduceNeg,Int.reduceLT,Int.reduceLE,Int.reduceEq,Int.reduceToNat,reduceCtorEq,reduceIte,Nat.zero_add,Nat.add_zero, *]
        rw [← HR.out]; exact RC_ret rfl (by simp_all [shapeF, -List.any_eq_true, -List.any_eq_false] <;> (intros; omega))
      simp (maxSteps:=1000000) (disch:=omega) only [Bool.or_false,Bool.false_or,Bool.or_true,Bool.true_or,bin_geq,bin_leq,go_sem,wrapI,wrapB,upd_is,upd_not,Nat.reduceAdd,Nat.reduceSub,Nat.reduceMul,Nat.reduceLeDiff,Nat.reduceEqDiff,Int.reduceAdd,Int.reduceSub,Int.reduceMul,Int.reduceNeg,Int.reduceLT,Int.reduceLE,Int.reduceEq,Int.reduceToNat,reduceCtorEq,reduceIte,Nat.zero_add,Nat.add_zero, *]
      refine CALL_bool (count_con _ _ _ _) rfl (fun h19 => ?_) (fun h19 => ?_)
      rotate_left
      · simp (maxSteps:=1000000) (disch:=omega) only [Bool.or_false,Bool.false_or,Bool.or_true,Bool.true_or,bin_geq,bin_leq,go_sem,wrapI,wrapB,upd_is,upd_not,Nat.reduceAdd,Nat.reduceSub,Nat.reduceMul,Nat.reduceLeDiff,Nat.reduceEqDiff,Int.reduceAdd,Int.reduceSub,Int.reduceMul,Int.reduceNeg,Int.reduceLT,Int.reduceLE,Int.reduceEq,Int.reduceToNat,reduceCtorEq,reduceIte,Nat.zero_add,Nat.add_zero, *]
        rw [← HR.out]; exact RC_ret rfl (by simp_all [shapeF, -List.any_eq_true, -List.any_eq_false] <;> (intros; omega))
      simp (maxSteps:=1000000) (disch:=omega) only [Bool.or_false,Bool.false_or,Bool.or_true,Bool.true_or,bin_geq,bin_leq,go_sem,wrapI,wrapB,upd_is,upd_not,Nat.reduceAdd,Nat.reduceSub,Nat.reduceMul,Nat.reduceLeDiff,Nat.reduceEqDiff,Int.reduceAdd,Int.reduceSub,Int.reduceMul,Int.reduceNeg,Int.reduceLT,Int.reduceLE,Int.reduceEq,Int.reduceToNat,reduceCtorEq,reduceIte,Nat.zero_add,Nat.add_zero, *]
      refine CALL_bool (count_con _ _ _ _) rfl (fun h20 => ?_) (fun h20 => ?_)
      rotate_left
      · simp (maxSteps:=1000000) (disch:=omega) only [Bool.or_false,Bool.false_or,Bool.or_true,Bool.true_or,bin_geq,bin_leq,go_sem,wrapI,wrapB,upd_is,upd_not,Nat.reduceAdd,Nat.reduceSub,Nat.reduceMul,Nat.reduceLeDiff,Nat.reduceEqDiff,Int.reduceAdd,Int.reduceSub,Int.reduceMul,Int.reduceNeg,Int.reduceLT,Int.reduceLE,Int.reduceEq,Int.reduceToNat,reduceCtorEq,reduceIte,Nat.zero_add,Nat.add_zero, *]
        rw [← HR.out]; exact RC_ret rfl (by simp_all [shapeF, -List.any_eq_true, -List.any_eq_false] <;> (intros; omega))
      simp (maxSteps:=1000000) (disch:=omega) only [Bool.or_false,Bool.false_or,Bool.or_true,Bool.true_or,bin_geq,bin_leq,go_sem,wrapI,wrapB,upd_is,upd_not,Nat.reduceAdd,Nat.reduceSub,Nat.reduceMul,Nat.reduceLeDiff,Nat.reduceEqDiff,Int.reduceAdd,Int.reduceSub,Int.reduceMul,Int.reduceNeg,Int.reduceLT,Int.reduceLE,Int.reduceEq,Int.reduceToNat,reduceCtorEq,reduceIte,Nat.zero_add,Nat.add_zero, *]
      refine CALL_bool (count_con _ _ _ _) rfl (fun h21 => ?_) (fun h21 => ?_)
      rotate_left
      · simp (maxSteps:=1000000) (disch:=omega) only [Bool.or_false,Bool.false_or,Bool.or_true,Bool.true_or,bin_geq,bin_leq,go_sem,wrapI,wrapB,upd_is,upd_not,Nat.reduceAdd,Nat.reduceSub,Nat.reduceMul,Nat.reduceLeDiff,Nat.reduceEqDiff,Int.reduceAdd,Int.reduceSub,Int.reduceMul,Int.reduceNeg,Int.reduceLT,Int.reduceLE,Int.reduceEq,Int.reduceToNat,reduceCtorEq,reduceIte,Nat.zero_add,Nat.add_zero, *]
        rw [← HR.out]; exact RC_ret rfl (by simp_all [shapeF, -List.any_eq_true, -List.any_eq_false] <;> (intros; omega))
      simp (maxSteps:=1000000) (disch:=omega) only [Bool.or_false,Bool.false_or,Bool.or_true,Bool.true_or,bin_geq,bin_leq,go_sem,wrapI,wrapB,upd_is,upd_not,Nat.reduceAdd,Nat.reduceSub,Nat.reduceMul,Nat.reduceLeDiff,Nat.reduceEqDiff,Int.reduceAdd,Int.reduceSub,Int.reduceMul,Int.reduceNeg,Int.reduceLT,Int.reduceLE,Int.reduceEq,Int.reduceToNat,reduceCtorEq,reduceIte,Nat.zero_add,Nat.add_zero, *]
      refine CALL_bool (count_con _ _ _ _) rfl (fun h22 => ?_) (fun h22 => ?_)
      rotate_left
      · simp (maxSteps:=1000000) (disch:=omega) only [Bool.or_false,Bool.false_or,Bool.or_true,Bool.true_or,bin_geq,bin_leq,go_sem,wrapI,wrapB,upd_is,upd_not,Nat.reduceAdd,Nat.reduceSub,Nat.reduceMul,Nat.reduceLeDiff,Nat.reduceEqDiff,Int.reduceAdd,Int.reduceSub,Int.reduceMul,Int.reduceNeg,Int.reduceLT,Int.reduceLE,Int.reduceEq,Int.reduceToNat,reduceCtorEq,reduceIte,Nat.zero_add,Nat.add_zero, *]
        rw [← HR.out]; exact RC_ret rfl (by simp_all [shapeF, -List.any_eq_true, -List.any_eq_false] <;> (intros; omega))
      simp (maxSteps:=1000000) (disch:=omega) only [Bool.or_false,Bool.false_or,Bool.or_true,Bool.true_or,bin_geq,bin_leq,go_sem,wrapI,wrapB,upd_is,upd_not,Nat.reduceAdd,Nat.reduceSub,Nat.reduceMul,Nat.reduceLeDiff,Nat.reduceEqDiff,Int.reduceAdd,Int.reduceSub,Int.reduceMul,Int.reduceNeg,Int.reduceLT,Int.reduceLE,Int.reduceEq,Int.reduceToNat,reduceCtorEq,reduceIte,Nat.zero_add,Nat.add_zero, *]
      refine CALL_bool (count_con _ _ _ _) rfl (fun h23 => ?_) (fun h23 => ?_)
      rotate_left
      · simp (maxSteps:=1000000) (disch:=omega) only [Bool.or_false,Bool.false_or,Bool.or_true,Bool.true_or,bin_geq,bin_leq,go_sem,wrapI,wrapB,upd_is,upd_not,Nat.reduceAdd,Nat.reduceSub,Nat.reduceMul,Nat.reduceLeDiff,Nat.reduceEqDiff,Int.reduceAdd,Int.reduceSub,Int.reduceMul,Int.reduceNeg,Int.reduceLT,Int.reduceLE,Int.reduceEq,Int.reduceToNat,reduceCtorEq,reduceIte,Nat.zero_add,Nat.add_zero, *]
        rw [← HR.out]; exact RC_ret rfl (by simp_all [shapeF, -List.any_eq_true, -List.any_eq_false] <;> (intros; omega))
      simp (maxSteps:=1000000) (disch:=omega) only [Bool.or_false,Bool.false_or,Bool.or_true,Bool.true_or,bin_geq,bin_leq,go_sem,wrapI,wrapB,upd_is,upd_not,Nat.reduceAdd,Nat.reduceSub,Nat.reduceMul,Nat.reduceLeDiff,Nat.reduceEqDiff,Int.reduceAdd,Int.reduceSub,Int.reduceMul,Int.reduceNeg,Int.reduceLT,Int.reduceLE,Int.reduceEq,Int.reduceToNat,reduceCtorEq,reduceIte,Nat.zero_add,Nat.add_zero, *]
      refine CALL_bool (count_con _ _ _ _) rfl (fun h24 => ?_) (fun h24 => ?_)
      rotate_left
      · simp (maxSteps:=1000000) (disch:=omega) only [Bool.or_false,Bool.false_or,Bool.or_true,Bool.true_or,bin_geq,bin_leq,go_sem,wrapI,wrapB,upd_is,upd_not,Nat.reduceAdd,Nat.reduceSub,Nat.reduceMul,Nat.reduceLeDiff,Nat.reduceEqDiff,Int.reduceAdd,Int.reduceSub,Int.reduceMul,Int.reduceNeg,Int.reduceLT,Int.reduceLE,Int.reduceEq,Int.reduceToNat,reduceCtorEq,reduceIte,Nat.zero_add,Nat.add_zero, *]
        rw [← HR.out]; exact RC_ret rfl (by simp_all [shapeF, -List.any_eq_true, -List.any_eq_false] <;> (intros; omega))
      simp (maxSteps:=1000000) (disch:=omega) only [Bool.or_false,Bool.false_or,Bool.or_true,Bool.true_or,bin_geq,bin_leq,go_sem,wrapI,wrapB,upd_is,upd_not,Nat.reduceAdd,Nat.reduceSub,Nat.reduceMul,Nat.reduceLeDiff,Nat.reduceEqDiff,Int.reduceAdd,Int.reduceSub,Int.reduceMul,Int.reduceNeg,Int.reduceLT,Int.reduceLE,Int.reduceEq,Int.reduceToNat,reduceCtorEq,reduceIte,Nat.zero_add,Nat.add_zero, *]
      by_cases hl1 : -1 ≤ limit
      rotate_left
      · simp (maxSteps:=1000000) (disch:=omega) only [Bool.or_false,Bool.false_or,Bool.or_true,Bool.true_or,bin_geq,bin_leq,go_sem,wrapI,wrapB,upd_is,upd_not,Nat.reduceAdd,Nat.reduceSub,Nat.reduceMul,Nat.reduceLeDiff,Nat.reduceEqDiff,Int.reduceAdd,Int.reduceSub,Int.reduceMul,Int.reduceNeg,Int.reduceLT,Int.reduceLE,Int.reduceEq,Int.reduceToNat,reduceCtorEq,reduceIte,Nat.zero_add,Nat.add_zero, *]
        rw [← HR.out]; exact RC_ret rfl (by simp_all [shapeF, -List.any_eq_true, -List.any_eq_false] <;> (intros; omega))
      by_cases hl2 : limit ≤ 2147483648
      rotate_left
      · simp (maxSteps:=1000000) (disch:=omega) only [Bool.or_false,Bool.false_or,Bool.or_true,Bool.true_or,bin_geq,bin_leq,go_sem,wrapI,wrapB,upd_is,upd_not,Nat.reduceAdd,Nat.reduceSub,Nat.reduceMul,Nat.reduceLeDiff,Nat.reduceEqDiff,Int.reduceAdd,Int.reduceSub,Int.reduceMul,Int.reduceNeg,Int.reduceLT,Int.reduceLE,Int.reduceEq,Int.reduceToNat,reduceCtorEq,reduceIte,Nat.zero_add,Nat.add_zero, *]
        rw [← HR.out]; exact RC_ret rfl (by simp_all [shapeF, -List.any_eq_true, -List.any_eq_false] <;> (intros; omega))
      simp (maxSteps:=1000000) (disch:=omega) only [Bool.or_false,Bool.false_or,Bool.or_true,Bool.true_or,bin_geq,bin_leq,go_sem,wrapI,wrapB,upd_is,upd_not,Nat.reduceAdd,Nat.reduceSub,Nat.reduceMul,Nat.reduceLeDiff,Nat.reduceEqDiff,Int.reduceAdd,Int.reduceSub,Int.reduceMul,Int.reduceNeg,Int.reduceLT,Int.reduceLE,Int.reduceEq,Int.reduceToNat,reduceCtorEq,reduceIte,Nat.zero_add,Nat.add_zero, *]
      refine CALL_bool CC.out rfl (fun h25 => ?_) (fun h25 => ?_)
      · simp (maxSteps:=1000000) (disch:=omega) only [Bool.or_false,Bool.false_or,Bool.or_true,Bool.true_or,bin_geq,bin_leq,go_sem,wrapI,wrapB,upd_is,upd_not,Nat.reduceAdd,Nat.reduceSub,Nat.reduceMul,Nat.reduceLeDiff,Nat.reduceEqDiff,Int.reduceAdd,Int.reduceSub,Int.reduceMul,Int.reduceNeg,Int.reduceLT,Int.reduceLE,Int.reduceEq,Int.reduceToNat,reduceCtorEq,reduceIte,Nat.zero_add,Nat.add_zero, *]
        rw [← HR.out]; exact RC_ret rfl (by simp_all [shapeF, -List.any_eq_true, -List.any_eq_false] <;> (intros; omega))
      simp (maxSteps:=1000000) (disch:=omega) only [Bool.or_false,Bool.false_or,Bool.or_true,Bool.true_or,bin_geq,bin_leq,go_sem,wrapI,wrapB,upd_is,upd_not,Nat.reduceAdd,Nat.reduceSub,Nat.reduceMul,Nat.reduceLeDiff,Nat.reduceEqDiff,Int.reduceAdd,Int.reduceSub,Int.reduceMul,Int.reduceNeg,Int.reduceLT,Int.reduceLE,Int.reduceEq,Int.reduceToNat,reduceCtorEq,reduceIte,Nat.zero_add,Nat.add_zero, *]
      refine CALL_bool CR.out rfl (fun h26 => ?_) (fun h26 => ?_)
      · simp (maxSteps:=1000000) (disch:=omega) only [Bool.or_false,Bool.false_or,Bool.or_true,Bool.true_or,bin_geq,bin_leq,go_sem,wrapI,wrapB,upd_is,upd_not,Nat.reduceAdd,Nat.reduceSub,Nat.reduceMul,Nat.reduceLeDiff,Nat.reduceEqDiff,Int.reduceAdd,Int.reduceSub,Int.reduceMul,Int.reduceNeg,Int.reduceLT,Int.reduceLE,Int.reduceEq,Int.reduceToNat,reduceCtorEq,reduceIte,Nat.zero_add,Nat.add_zero, *]
        rw [← HR.out]; exact RC_ret rfl (by simp_all [shapeF, -List.any_eq_true, -List.any_eq_false] <;> (intros; omega))
      simp (maxSteps:=1000000) (disch:=omega) only [Bool.or_false,Bool.false_or,Bool.or_true,Bool.true_or,bin_geq,bin_leq,go_sem,wrapI,wrapB,upd_is,upd_not,Nat.reduceAdd,Nat.reduceSub,Nat.reduceMul,Nat.reduceLeDiff,Nat.reduceEqDiff,Int.reduceAdd,Int.reduceSub,Int.reduceMul,Int.reduceNeg,Int.reduceLT,Int.reduceLE,Int.reduceEq,Int.reduceToNat,reduceCtorEq,reduceIte,Nat.zero_add,Nat.add_zero, *]
      refine CALL_bool CS.out rfl (fun h27 => ?_) (fun h27 => ?_)
      · simp (maxSteps:=1000000) (disch:=omega) only [Bool.or_false,Bool.false_or,Bool.or_true,Bool.true_or,bin_geq,bin_leq,go_sem,wrapI,wrapB,upd_is,upd_not,Nat.reduceAdd,Nat.reduceSub,Nat.reduceMul,Nat.reduceLeDiff,Nat.reduceEqDiff,Int.reduceAdd,Int.reduceSub,Int.reduceMul,Int.reduceNeg,Int.reduceLT,Int.reduceLE,Int.reduceEq,Int.reduceToNat,reduceCtorEq,reduceIte,Nat.zero_add,Nat.add_zero, *]
        rw [← HR.out]; exact RC_ret rfl (by simp_all [shapeF, -List.any_eq_true, -List.any_eq_false] <;> (intros; omega))
      simp (maxSteps:=1000000) (disch:=omega) only [Bool.or_false,Bool.false_or,Bool.or_true,Bool.true_or,bin_geq,bin_leq,go_sem,wrapI,wrapB,upd_is,upd_not,Nat.reduceAdd,Nat.reduceSub,Nat.reduceMul,Nat.reduceLeDiff,Nat.reduceEqDiff,Int.reduceAdd,Int.reduceSub,Int.reduceMul,Int.reduceNeg,Int.reduceLT,Int.reduceLE,Int.reduceEq,Int.reduceToNat,reduceCtorEq,reduceIte,Nat.zero_add,Nat.add_zero, *]
      refine CALL_bool CO.out rfl (fun h28 => ?_) (fun h28 => ?_)
      · simp (maxSteps:=1000000) (disch:=omega) only [Bool.or_false,Bool.false_or,Bool.or_true,Bool.true_or,bin_geq,bin_leq,go_sem,wrapI,wrapB,upd_is,upd_not,Nat.reduceAdd,Nat.reduceSub,Nat.reduceMul,Nat.reduceLeDiff,Nat.reduceEqDiff,Int.reduceAdd,Int.reduceSub,Int.reduceMul,Int.reduceNeg,Int.reduceLT,Int.reduceLE,Int.reduceEq,Int.reduceToNat,reduceCtorEq,reduceIte,Nat.zero_add,Nat.add_zero, *]
        rw [← HR.out]; exact RC_ret rfl (by simp_all [shapeF, -List.any_eq_true, -List.any_eq_false] <;> (intros; omega))
      simp (maxSteps:=1000000) (disch:=omega) only [Bool.or_false,Bool.false_or,Bool.or_true,Bool.true_or,bin_geq,bin_leq,go_sem,wrapI,wrapB,upd_is,upd_not,Nat.reduceAdd,Nat.reduceSub,Nat.reduceMul,Nat.reduceLeDiff,Nat.reduceEqDiff,Int.reduceAdd,Int.reduceSub,Int.reduceMul,Int.reduceNeg,Int.reduceLT,Int.reduceLE,Int.reduceEq,Int.reduceToNat,reduceCtorEq,reduceIte,Nat.zero_add,Nat.add_zero, *]
      rw [← HR.out]; exact RC_ret rfl (by simp_all [shapeF, -List.any_eq_true, -List.any_eq_false] <;> (intros; omega))
  ·
    simp (maxSteps:=1000000) (disch:=omega) only [sh_syntax_shape,encSm,Bool.or_false,Bool.false_or,Bool.or_true,Bool.true_or,bin_geq,bin_leq,go_sem,wrapI,wrapB,upd_is,upd_not,Nat.reduceAdd,Nat.reduceSub,Nat.reduceMul,Nat.reduceLeDiff,Nat.reduceEqDiff,Int.reduceAdd,Int.reduceSub,Int.reduceMul,Int.reduceNeg,Int.reduceLT,Int.reduceLE,Int.reduceEq,Int.reduceToNat,reduceCtorEq,reduceIte,Nat.zero_add,Nat.add_zero, *]
    refine CALL_bool (NT _).out rfl (fun h29 => ?_) (fun h29 => ?_)
    rotate_left
    · simp (maxSteps:=1000000) (disch:=omega) only [Bool.or_false,Bool.false_or,Bool.or_true,Bool.true_or,bin_geq,bin_leq,go_sem,wrapI,wrapB,upd_is,upd_not,Nat.reduceAdd,Nat.reduceSub,Nat.reduceMul,Nat.reduceLeDiff,Nat.reduceEqDiff,Int.reduceAdd,Int.reduceSub,Int.reduceMul,Int.reduceNeg,Int.reduceLT,Int.reduceLE,Int.reduceEq,Int.reduceToNat,reduceCtorEq,reduceIte,Nat.zero_add,Nat.add_zero, *]
      rw [← HR.out]; exact RC_ret rfl (by simp_all [shapeF, -List.any_eq_true, -List.any_eq_false] <;> (intros; omega))
    simp (maxSteps:=1000000) (disch:=omega) only [Bool.or_false,Bool.false_or,Bool.or_true,Bool.true_or,bin_geq,bin_leq,go_sem,wrapI,wrapB,upd_is,upd_not,Nat.reduceAdd,Nat.reduceSub,Nat.reduceMul,Nat.reduceLeDiff,Nat.reduceEqDiff,Int.reduceAdd,Int.reduceSub,Int.reduceMul,Int.reduceNeg,Int.reduceLT,Int.reduceLE,Int.reduceEq,Int.reduceToNat,reduceCtorEq,reduceIte,Nat.zero_add,Nat.add_zero, *]
    refine CALL_bool (NK _).out rfl (fun h30 => ?_) (fun h30 => ?_)
    rotate_left
    · simp (maxSteps:=1000000) (disch:=omega) only [Bool.or_false,Bool.false_or,Bool.or_true,Bool.true_or,bin_geq,bin_leq,go_sem,wrapI,wrapB,upd_is,upd_not,Nat.reduceAdd,Nat.reduceSub,Nat.reduceMul,Nat.reduceLeDiff,Nat.reduceEqDiff,Int.reduceAdd,Int.reduceSub,Int.reduceMul,Int.reduceNeg,Int.reduceLT,Int.reduceLE,Int.reduceEq,Int.reduceToNat,reduceCtorEq,reduceIte,Nat.zero_add,Nat.add_zero, *]
      rw [← HR.out]; exact RC_ret rfl (by simp_all [shapeF, -List.any_eq_true, -List.any_eq_false] <;> (intros; omega))
    simp (maxSteps:=1000000) (disch:=omega) only [Bool.or_false,Bool.false_or,Bool.or_true,Bool.true_or,bin_geq,bin_leq,go_sem,wrapI,wrapB,upd_is,upd_not,Nat.reduceAdd,Nat.reduceSub,Nat.reduceMul,Nat.reduceLeDiff,Nat.reduceEqDiff,Int.reduceAdd,Int.reduceSub,Int.reduceMul,Int.reduceNeg,Int.reduceLT,Int.reduceLE,Int.reduceEq,Int.reduceToNat,reduceCtorEq,reduceIte,Nat.zero_add,Nat.add_zero, *]
    refine CALL_bool (NI _).out rfl (fun h31 => ?_) (fun h31 => ?_)
    rotate_left
    · simp (maxSteps:=1000000) (disch:=omega) only [Bool.or_false,Bool.false_or,Bool.or_true,Bool.true_or,bin_geq,bin_leq,go_sem,wrapI,wrapB,upd_is,upd_not,Nat.reduceAdd,Nat.reduceSub,Nat.reduceMul,Nat.reduceLeDiff,Nat.reduceEqDiff,Int.reduceAdd,Int.reduceSub,Int.reduceMul,Int.reduceNeg,Int.reduceLT,Int.reduceLE,Int.reduceEq,Int.reduceToNat,reduceCtorEq,reduceIte,Nat.zero_add,Nat.add_zero, *]
      rw [← HR.out]; exact RC_ret rfl (by simp_all [shapeF, -List.any_eq_true, -List.any_eq_false] <;> (intros; omega))
    simp (maxSteps:=1000000) (disch:=omega) only [Bool.or_false,Bool.false_or,Bool.or_true,Bool.true_or,bin_geq,bin_leq,go_sem,wrapI,wrapB,upd_is,upd_not,Nat.reduceAdd,Nat.reduceSub,Nat.reduceMul,Nat.reduceLeDiff,Nat.reduceEqDiff,Int.reduceAdd,Int.reduceSub,Int.reduceMul,Int.reduceNeg,Int.reduceLT,Int.reduceLE,Int.reduceEq,Int.reduceToNat,reduceCtorEq,reduceIte,Nat.zero_add,Nat.add_zero, *]
    by_cases hj : join = []
    rotate_left
    · simp (maxSteps:=1000000) (disch:=omega) only [Bool.or_false,Bool.false_or,Bool.or_true,Bool.true_or,bin_geq,bin_leq,go_sem,wrapI,wrapB,upd_is,upd_not,Nat.reduceAdd,Nat.reduceSub,Nat.reduceMul,Nat.reduceLeDiff,Nat.reduceEqDiff,Int.reduceAdd,Int.reduceSub,Int.reduceMul,Int.reduceNeg,Int.reduceLT,Int.reduceLE,Int.reduceEq,Int.reduceToNat,reduceCtorEq,reduceIte,Nat.zero_add,Nat.add_zero, *]
      rw [← HR.out]; exact RC_ret rfl (by simp_all [shapeF, -List.any_eq_true, -List.any_eq_false] <;> (intros; omega))
    simp (maxSteps:=1000000) (disch:=omega) only [Bool.or_false,Bool.false_or,Bool.or_true,Bool.true_or,bin_geq,bin_leq,go_sem,wrapI,wrapB,upd_is,upd_not,Nat.reduceAdd,Nat.reduceSub,Nat.reduceMul,Nat.reduceLeDiff,Nat.reduceEqDiff,Int.reduceAdd,Int.reduceSub,Int.reduceMul,Int.reduceNeg,Int.reduceLT,Int.reduceLE,Int.reduceEq,Int.reduceToNat,reduceCtorEq,reduceIte,Nat.zero_add,Nat.add_zero, *]
    refine CALL_bool (count_con _ _ _ _) rfl (fun h32 => ?_) (fun h32 => ?_)
    rotate_left
    · simp (maxSteps:=1000000) (disch:=omega) only [Bool.or_false,Bool.false_or,Bool.or_true,Bool.true_or,bin_geq,bin_leq,go_sem,wrapI,wrapB,upd_is,upd_not,Nat.reduceAdd,Nat.reduceSub,Nat.reduceMul,Nat.reduceLeDiff,Nat.reduceEqDiff,Int.reduceAdd,Int.reduceSub,Int.reduceMul,Int.reduceNeg,Int.reduceLT,Int.reduceLE,Int.reduceEq,Int.reduceToNat,reduceCtorEq,reduceIte,Nat.zero_add,Nat.add_zero, *]
      rw [← HR.out]; exact RC_ret rfl (by simp_all [shapeF, -List.any_eq_true, -List.any_eq_false] <;> (intros; omega))
    simp (maxSteps:=1000000) (disch:=omega) only [Bool.or_false,Bool.false_or,Bool.or_true,Bool.true_or,bin_geq,bin_leq,go_sem,wrapI,wrapB,upd_is,upd_not,Nat.reduceAdd,Nat.reduceSub,Nat.reduceMul,Nat.reduceLeDiff,Nat.reduceEqDiff,Int.reduceAdd,Int.reduceSub,Int.reduceMul,Int.reduceNeg,Int.reduceLT,Int.reduceLE,Int.reduceEq,Int.reduceToNat,reduceCtorEq,reduceIte,Nat.zero_add,Nat.add_zero, *]
    refine CALL_bool (count_con _ _ _ _) rfl (fun h33 => ?_) (fun h33 => ?_)
    rotate_left
    · simp (maxSteps:=1000000) (disch:=omega) only [Bool.or_false,Bool.false_or,Bool.or_true,Bool.true_or,bin_geq,bin_leq,go_sem,wrapI,wrapB,upd_is,upd_not,Nat.reduceAdd,Nat.reduceSub,Nat.reduceMul,Nat.reduceLeDiff,Nat.reduceEqDiff,Int.reduceAdd,Int.reduceSub,Int.reduceMul,Int.reduceNeg,Int.reduceLT,Int.reduceLE,Int.reduceEq,Int.reduceToNat,reduceCtorEq,reduceIte,Nat.zero_add,Nat.add_zero, *]
      rw [← HR.out]; exact RC_ret rfl (by simp_all [shapeF, -List.any_eq_true, -List.any_eq_false] <;> (intros; omega))
    simp (maxSteps:=1000000) (disch:=omega) only [Bool.or_false,Bool.false_or,Bool.or_true,Bool.true_or,bin_geq,bin_leq,go_sem,wrapI,wrapB,upd_is,upd_not,Nat.reduceAdd,Nat.reduceSub,Nat.reduceMul,Nat.reduceLeDiff,Nat.reduceEqDiff,Int.reduceAdd,Int.reduceSub,Int.reduceMul,Int.reduceNeg,Int.reduceLT,Int.reduceLE,Int.reduceEq,Int.reduceToNat,reduceCtorEq,reduceIte,Nat.zero_add,Nat.add_zero, *]
    refine CALL_bool (count_con _ _ _ _) rfl (fun h34 => ?_) (fun h34 => ?_)
    rotate_left
    · simp (maxSteps:=1000000) (disch:=omega) only [Bool.or_false,Bool.false_or,Bool.or_true,Bool.true_or,bin_geq,bin_leq,go_sem,wrapI,wrapB,upd_is,upd_not,Nat.reduceAdd,Nat.reduceSub,Nat.reduceMul,Nat.reduceLeDiff,Nat.reduceEqDiff,Int.reduceAdd,Int.reduceSub,Int.reduceMul,Int.reduceNeg,Int.reduceLT,Int.reduceLE,Int.reduceEq,Int.reduceToNat,reduceCtorEq,reduceIte,Nat.zero_add,Nat.add_zero, *]
      rw [← HR.out]; exact RC_ret rfl (by simp_all [shapeF, -List.any_eq_true, -List.any_eq_false] <;> (intros; omega))
    simp (maxSteps:=1000000) (disch:=omega) only [Bool.or_false,Bool.false_or,Bool.or_true,Bool.true_or,bin_geq,bin_leq,go_sem,wrapI,wrapB,upd_is,upd_not,Nat.reduceAdd,Nat.reduceSub,Nat.reduceMul,Nat.reduceLeDiff,Nat.reduceEqDiff,Int.reduceAdd,Int.reduceSub,Int.reduceMul,Int.reduceNeg,Int.reduceLT,Int.reduceLE,Int.reduceEq,Int.reduceToNat,reduceCtorEq,reduceIte,Nat.zero_add,Nat.add_zero, *]
    refine CALL_bool (count_con _ _ _ _) rfl (fun h35 => ?_) (fun h35 => ?_)
    rotate_left
    · simp (maxSteps:=1000000) (disch:=omega) only [Bool.or_false,Bool.false_or,Bool.or_true,Bool.true_or,bin_geq,bin_leq,go_sem,wrapI,wrapB,upd_is,upd_not,Nat.reduceAdd,Nat.reduceSub,Nat.reduceMul,Nat.reduceLeDiff,Nat.reduceEqDiff,Int.reduceAdd,Int.reduceSub,Int.reduceMul,Int.reduceNeg,Int.reduceLT,Int.reduceLE,Int.reduceEq,Int.reduceToNat,reduceCtorEq,reduceIte,Nat.zero_add,Nat.add_zero, *]
      rw [← HR.out]; exact RC_ret rfl (by simp_all [shapeF, -List.any_eq_true, -List.any_eq_false] <;> (intros; omega))
    simp (maxSteps:=1000000) (disch:=omega) only [Bool.or_false,Bool.false_or,Bool.or_true,Bool.true_or,bin_geq,bin_leq,go_sem,wrapI,wrapB,upd_is,upd_not,Nat.reduceAdd,Nat.reduceSub,Nat.reduceMul,Nat.reduceLeDiff,Nat.reduceEqDiff,Int.reduceAdd,Int.reduceSub,Int.reduceMul,Int.reduceNeg,Int.reduceLT,Int.reduceLE,Int.reduceEq,Int.reduceToNat,reduceCtorEq,reduceIte,Nat.zero_add,Nat.add_zero, *]
    refine CALL_bool (count_con _ _ _ _) rfl (fun h36 => ?_) (fun h36 => ?_)
    rotate_left
    · simp (maxSteps:=1000000) (disch:=omega) only [Bool.or_false,Bool.false_or,Bool.or_true,Bool.true_or,bin_geq,bin_leq,go_sem,wrapI,wrapB,upd_is,upd_not,Nat.reduceAdd,Nat.reduceSub,Nat.reduceMul,Nat.reduceLeDiff,Nat.reduceEqDiff,Int.reduceAdd,Int.reduceSub,Int.reduceMul,Int.reduceNeg,Int.reduceLT,Int.reduceLE,Int.reduceEq,Int.reduceToNat,reduceCtorEq,reduceIte,Nat.zero_add,Nat.add_zero, *]
      rw [← HR.out]; exact RC_ret rfl (by simp_all [shapeF, -List.any_eq_true, -List.any_eq_false] <;> (intros; omega))
    simp (maxSteps:=1000000) (disch:=omega) only [Bool.or_false,Bool.false_or,Bool.or_true,Bool.true_or,bin_geq,bin_leq,go_sem,wrapI,wrapB,upd_is,upd_not,Nat.reduceAdd,Nat.reduceSub,Nat.reduceMul,Nat.reduceLeDiff,Nat.reduceEqDiff,Int.reduceAdd,Int.reduceSub,Int.reduceMul,Int.reduceNeg,Int.reduceLT,Int.reduceLE,Int.reduceEq,Int.reduceToNat,reduceCtorEq,reduceIte,Nat.zero_add,Nat.add_zero, *]
    refine CALL_bool (count_con _ _ _ _) rfl (fun h37 => ?_) (fun h37 => ?_)
    rotate_left
    · simp (maxSteps:=1000000) (disch:=omega) only [Bool.or_false,Bool.false_or,Bool.or_true,Bool.true_or,bin_geq,bin_leq,go_sem,wrapI,wrapB,upd_is,upd_not,Nat.reduceAdd,Nat.reduceSub,Nat.reduceMul,Nat.reduceLeDiff,Nat.reduceEqDiff,Int.reduceAdd,Int.reduceSub,Int.reduceMul,Int.reduceNeg,Int.reduceLT,Int.reduceLE,Int.reduceEq,Int.reduceToNat,reduceCtorEq,reduceIte,Nat.zero_add,Nat.add_zero, *]
      rw [← HR.out]; exact RC_ret rfl (by simp_all [shapeF, -List.any_eq_true, -List.any_eq_false] <;> (intros; omega))
    simp (maxSteps:=1000000) (disch:=omega) only [Bool.or_false,Bool.false_or,Bool.or_true,Bool.true_or,bin_geq,bin_leq,go_sem,wrapI,wrapB,upd_is,upd_not,Nat.reduceAdd,Nat.reduceSub,Nat.reduceMul,Nat.reduceLeDiff,Nat.reduceEqDiff,Int.reduceAdd,Int.reduceSub,Int.reduceMul,Int.reduceNeg,Int.reduceLT,Int.reduceLE,Int.reduceEq,Int.reduceToNat,reduceCtorEq,reduceIte,Nat.zero_add,Nat.add_zero, *]
    refine CALL_bool (count_con _ _ _ _) rfl (fun h38 => ?_) (fun h38 => ?_)
    rotate_left
    · simp (maxSteps:=1000000) (disch:=omega) only [Bool.or_false,Bool.false_or,Bool.or_true,Bool.true_or,bin_geq,bin_leq,go_sem,wrapI,wrapB,upd_is,upd_not,Nat.reduceAdd,Nat.reduceSub,Nat.reduceMul,Nat.reduceLeDiff,Nat.reduceEqDiff,Int.reduceAdd,Int.reduceSub,Int.reduceMul,Int.reduceNeg,Int.reduceLT,Int.reduceLE,Int.reduceEq,Int.reduceToNat,reduceCtorEq,reduceIte,Nat.zero_add,Nat.add_zero, *]
      rw [← HR.out]; exact RC_ret rfl (by simp_all [shapeF, -List.any_eq_true, -List.any_eq_false] <;> (intros; omega))
    simp (maxSteps:=1000000) (disch:=omega) only [Bool.or_false,Bool.false_or,Bool.or_true,Bool.true_or,bin_geq,bin_leq,go_sem,wrapI,wrapB,upd_is,upd_not,Nat.reduceAdd,Nat.reduceSub,Nat.reduceMul,Nat.reduceLeDiff,Nat.reduceEqDiff,Int.reduceAdd,Int.reduceSub,Int.reduceMul,Int.reduceNeg,Int.reduceLT,Int.reduceLE,Int.reduceEq,Int.reduceToNat,reduceCtorEq,reduceIte,Nat.zero_add,Nat.add_zero, *]
    refine CALL_bool (count_con _ _ _ _) rfl (fun h39 => ?_) (fun h39 => ?_)
    rotate_left
    · simp (maxSteps:=1000000) (disch:=omega) only [Bool.or_false,Bool.false_or,Bool.or_true,Bool.true_or,bin_geq,bin_leq,go_sem,wrapI,wrapB,upd_is,upd_not,Nat.reduceAdd,Nat.reduceSub,Nat.reduceMul,Nat.reduceLeDiff,Nat.reduceEqDiff,Int.reduceAdd,Int.reduceSub,Int.reduceMul,Int.reduceNeg,Int.reduceLT,Int.reduceLE,Int.reduceEq,Int.reduceToNat,reduceCtorEq,reduceIte,Nat.zero_add,Nat.add_zero, *]
      rw [← HR.out]; exact RC_ret rfl (by simp_all [shapeF, -List.any_eq_true, -List.any_eq_false] <;> (intros; omega))
    simp (maxSteps:=1000000) (disch:=omega) only [Bool.or_false,Bool.false_or,Bool.or_true,Bool.true_or,bin_geq,bin_leq,go_sem,wrapI,wrapB,upd_is,upd_not,Nat.reduceAdd,Nat.reduceSub,Nat.reduceMul,Nat.reduceLeDiff,Nat.reduceEqDiff,Int.reduceAdd,Int.reduceSub,Int.reduceMul,Int.reduceNeg,Int.reduceLT,Int.reduceLE,Int.reduceEq,Int.reduceToNat,reduceCtorEq,reduceIte,Nat.zero_add,Nat.add_zero, *]
    by_cases hl1 : limit = 0
    rotate_left
    · simp (maxSteps:=1000000) (disch:=omega) only [Bool.or_false,Bool.false_or,Bool.or_true,Bool.true_or,bin_geq,bin_leq,go_sem,wrapI,wrapB,upd_is,upd_not,Nat.reduceAdd,Nat.reduceSub,Nat.reduceMul,Nat.reduceLeDiff,Nat.reduceEqDiff,Int.reduceAdd,Int.reduceSub,Int.reduceMul,Int.reduceNeg,Int.reduceLT,Int.reduceLE,Int.reduceEq,Int.reduceToNat,reduceCtorEq,reduceIte,Nat.zero_add,Nat.add_zero, *]
      rw [← HR.out]; exact RC_ret rfl (by simp_all [shapeF, -List.any_eq_true, -List.any_eq_false] <;> (intros; omega))
    simp (maxSteps:=1000000) (disch:=omega) only [Bool.or_false,Bool.false_or,Bool.or_true,Bool.true_or,bin_geq,bin_leq,go_sem,wrapI,wrapB,upd_is,upd_not,Nat.reduceAdd,Nat.reduceSub,Nat.reduceMul,Nat.reduceLeDiff,Nat.reduceEqDiff,Int.reduceAdd,Int.reduceSub,Int.reduceMul,Int.reduceNeg,Int.reduceLT,Int.reduceLE,Int.reduceEq,Int.reduceToNat,reduceCtorEq,reduceIte,Nat.zero_add,Nat.add_zero, *]
    refine CALL_bool CC.out rfl (fun h40 => ?_) (fun h40 => ?_)
    · simp (maxSteps:=1000000) (disch:=omega) only [Bool.or_false,Bool.false_or,Bool.or_true,Bool.true_or,bin_geq,bin_leq,go_sem,wrapI,wrapB,upd_is,upd_not,Nat.reduceAdd,Nat.reduceSub,Nat.reduceMul,Nat.reduceLeDiff,Nat.reduceEqDiff,Int.reduceAdd,Int.reduceSub,Int.reduceMul,Int.reduceNeg,Int.reduceLT,Int.reduceLE,Int.reduceEq,Int.reduceToNat,reduceCtorEq,reduceIte,Nat.zero_add,Nat.add_zero, *]
      rw [← HR.out]; exact RC_ret rfl (by simp_all [shapeF, -List.any_eq_true, -List.any_eq_false] <;> (intros; omega))
    simp (maxSteps:=1000000) (disch:=omega) only [Bool.or_false,Bool.false_or,Bool.or_true,Bool.true_or,bin_geq,bin_leq,go_sem,wrapI,wrapB,upd_is,upd_not,Nat.reduceAdd,Nat.reduceSub,Nat.reduceMul,Nat.reduceLeDiff,Nat.reduceEqDiff,Int.reduceAdd,Int.reduceSub,Int.reduceMul,Int.reduceNeg,Int.reduceLT,Int.reduceLE,Int.reduceEq,Int.reduceToNat,reduceCtorEq,reduceIte,Nat.zero_add,Nat.add_zero, *]
    refine CALL_bool CR.out rfl (fun h41 => ?_) (fun h41 => ?_)
    · simp (maxSteps:=1000000) (disch:=omega) only [Bool.or_false,Bool.false_or,Bool.or_true,Bool.true_or,bin_geq,bin_leq,go_sem,wrapI,wrapB,upd_is,upd_not,Nat.reduceAdd,Nat.reduceSub,Nat.reduceMul,Nat.reduceLeDiff,Nat.reduceEqDiff,Int.reduceAdd,Int.reduceSub,Int.reduceMul,Int.reduceNeg,Int.reduceLT,Int.reduceLE,Int.reduceEq,Int.reduceToNat,reduceCtorEq,reduceIte,Nat.zero_add,Nat.add_zero, *]
      rw [← HR.out]; exact RC_ret rfl (by simp_all [shapeF, -List.any_eq_true, -List.any_eq_false] <;> (intros; omega))
    simp (maxSteps:=1000000) (disch:=omega) only [Bool.or_false,Bool.false_or,Bool.or_true,Bool.true_or,bin_geq,bin_leq,go_sem,wrapI,wrapB,upd_is,upd_not,Nat.reduceAdd,Nat.reduceSub,Nat.reduceMul,Nat.reduceLeDiff,Nat.reduceEqDiff,Int.reduceAdd,Int.reduceSub,Int.reduceMul,Int.reduceNeg,Int.reduceLT,Int.reduceLE,Int.reduceEq,Int.reduceToNat,reduceCtorEq,reduceIte,Nat.zero_add,Nat.add_zero, *]
    refine CALL_bool CS.out rfl (fun h42 => ?_) (fun h42 => ?_)
    · simp (maxSteps:=1000000) (disch:=omega) only [Bool.or_false,Bool.false_or,Bool.or_true,Bool.true_or,bin_geq,bin_leq,go_sem,wrapI,wrapB,upd_is,upd_not,Nat.reduceAdd,Nat.reduceSub,Nat.reduceMul,Nat.reduceLeDiff,Nat.reduceEqDiff,Int.reduceAdd,Int.reduceSub,Int.reduceMul,Int.reduceNeg,Int.reduceLT,Int.reduceLE,Int.reduceEq,Int.reduceToNat,reduceCtorEq,reduceIte,Nat.zero_add,Nat.add_zero, *]
      rw [← HR.out]; exact RC_ret rfl (by simp_all [shapeF, -List.any_eq_true, -List.any_eq_false] <;> (intros; omega))
    simp (maxSteps:=1000000) (disch:=omega) only [Bool.or_false,Bool.false_or,Bool.or_true,Bool.true_or,bin_geq,bin_leq,go_sem,wrapI,wrapB,upd_is,upd_not,Nat.reduceAdd,Nat.reduceSub,Nat.reduceMul,Nat.reduceLeDiff,Nat.reduceEqDiff,Int.reduceAdd,Int.reduceSub,Int.reduceMul,Int.reduceNeg,Int.reduceLT,Int.reduceLE,Int.reduceEq,Int.reduceToNat,reduceCtorEq,reduceIte,Nat.zero_add,Nat.add_zero, *]
    refine CALL_bool CO.out rfl (fun h43 => ?_) (fun h43 => ?_)
    · simp (maxSteps:=1000000) (disch:=omega) only [Bool.or_false,Bool.false_or,Bool.or_true,Bool.true_or,bin_geq,bin_leq,go_sem,wrapI,wrapB,upd_is,upd_not,Nat.reduceAdd,Nat.reduceSub,Nat.reduceMul,Nat.reduceLeDiff,Nat.reduceEqDiff,Int.reduceAdd,Int.reduceSub,Int.reduceMul,Int.reduceNeg,Int.reduceLT,Int.reduceLE,Int.reduceEq,Int.reduceToNat,reduceCtorEq,reduceIte,Nat.zero_add,Nat.add_zero, *]
      rw [← HR.out]; exact RC_ret rfl (by simp_all [shapeF, -List.any_eq_true, -List.any_eq_false] <;> (intros; omega))
    simp (maxSteps:=1000000) (disch:=omega) only [Bool.or_false,Bool.false_or,Bool.or_true,Bool.true_or,bin_geq,bin_leq,go_sem,wrapI,wrapB,upd_is,upd_not,Nat.reduceAdd,Nat.reduceSub,Nat.reduceMul,Nat.reduceLeDiff,Nat.reduceEqDiff,Int.reduceAdd,Int.reduceSub,Int.reduceMul,Int.reduceNeg,Int.reduceLT,Int.reduceLE,Int.reduceEq,Int.reduceToNat,reduceCtorEq,reduceIte,Nat.zero_add,Nat.add_zero, *]
    rw [← HR.out]; exact RC_ret rfl (by simp_all [shapeF, -List.any_eq_true, -List.any_eq_false] <;> (intros; omega))
end Go.Proofs.YtodoejfkjimeaaaDoor
