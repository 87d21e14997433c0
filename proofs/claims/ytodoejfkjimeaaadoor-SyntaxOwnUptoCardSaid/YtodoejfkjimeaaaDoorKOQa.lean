/- Packed by a program of this repo: Qa. -/
import Derived.Test.YtodoejfkjimeaaaDoorKOCa
import Derived.Test.YtodoejfkjimeaaaDoorKOSh6
import Derived.Test.YtodoejfkjimeaaaDoorKOSh6b
set_option linter.unusedSimpArgs false
set_option linter.unusedVariables false
set_option maxRecDepth 100000
namespace Go.Proofs.YtodoejfkjimeaaaDoor
open Go Go.RowKit Am
attribute [-go_sem] guardP_if guardK_if guardD_if COND_bool
attribute [local go_sem low] guardP_if guardK_if guardD_if COND_bool

structure Se where
  name : Tx
  ex : Ep
def encS (x : Se) : List AV := .s x.name :: encE x.ex
structure Od where
  n : Int
  desc : Bool
def encO (x : Od) : List AV := [.sc (.int .i64 x.n), .sc (.bool x.desc)]
def encRx (l : List Ep) : List AV := [.tr (l.map encE)]
structure Sm where
  kind : Int
  table : Tx
  columns : List Cl
  key : Tx
  index : Tx
  rows : List (List Ep)
  sets : List Se
  items : List Ep
  join : Tx
  on : List Ep
  where_ : List Ep
  group : List Ep
  order : List Od
  limit : Int
def encSm (x : Sm) : List AV := [.sc (.int .i64 x.kind), .s x.table, .tr (x.columns.map encC), .s x.key, .s x.index, .tr (x.rows.map encRx), .tr (x.sets.map encS), .tr (x.items.map encE), .s x.join,
  .tr (x.on.map encE), .tr (x.where_.map encE), .tr (x.group.map encE), .tr (x.order.map encO), .sc (.int .i64 x.limit)]
theorem encS_len (x : Se) : (encS x).length = 8 := by unfold encS; rw [List.length_cons, encE_len]
theorem encO_len (x : Od) : (encO x).length = 2 := rfl
theorem encRx_len (x : List Ep) : (encRx x).length = 1 := rfl
theorem encS_all (l : List Se) : ((l.map encS).all fun r => r.length == 8) = true := all_enc encS 8 encS_len l
theorem encO_all (l : List Od) : ((l.map encO).all fun r => r.length == 2) = true := all_enc encO 2 encO_len l
theorem encRx_all (l : List (List Ep)) : ((l.map encRx).all fun r => r.length == 1) = true := all_enc encRx 1 encRx_len l
theorem encS_leafs (l : List Se) : ((l.map encS).all fun r => r.all leafok) = true := by simp [encS, encE_eq, leafok]
theorem encO_leafs (l : List Od) : ((l.map encO).all fun r => r.all leafok) = true := by simp [encO, leafok]
theorem encRx_leafs (l : List (List Ep)) : ((l.map encRx).all fun r => r.all leafok) = true := by simp [encRx, leafok]
attribute [go_sem] encS_len encO_len encRx_len encS_all encO_all encRx_all encS_leafs encO_leafs encRx_leafs
theorem ixL_neg {α : Type} {q : α → Bool} {xs : List α} : decide (0 ≤ ixL q xs) = xs.any q := by
  cases h : xs.any q with
  | false => rw [ixL_no h]; rfl
  | true =>
    unfold ixL; rw [h]
    simp
theorem ixS_con (g : FuncId) (caps : List AV) (q : Se → Bool) (xs : List (Se)) (hc : ∀ σ, brwL σ 6 caps = some (caps, [])) (h : ∀ x ∈ xs, Con Tryd.prog g ([.ag (encS x)] ++ caps) (.ret (.sc (.bool (q x))))) :
    Con Tryd.prog 122 [.tr (xs.map encS), .fn g caps] (.ret (.sc (.int .i64 (ixL q xs)))) := by
  refine con_of (by_slices_IndexFunc_lapi_Set_api_Set ?_)
  have H := Lib.hid h; clear h
  have HC := Lib.hid hc; clear hc
  simp (maxSteps:=1000000) (disch:=omega) only [sh_slices_IndexFunc_lapi_Set_api_Set,go_sem,wrapI,wrapB,upd_is,upd_not,Nat.reduceAdd,Nat.reduceSub,Nat.reduceMul,Nat.reduceLeDiff,Nat.reduceEqDiff,Int.reduceAdd,Int.reduceSub,Int.reduceMul,Int.reduceNeg,Int.reduceLT,Int.reduceLE,Int.reduceEq,Int.reduceToNat,reduceCtorEq,reduceIte,Nat.zero_add,Nat.add_zero, *]
  intro hl
  refine LOOP_list xs (fun i s => (xs.take i).any q = false ∧ ∃ a b c d, s = [a, b, c, d, .sc (.int .i64 i)]) ⟨rfl, _, _, _, _, rfl⟩ ?_ ?_
  · rintro i x K s' n' hx hi hi' hn ⟨h0, a, b, c, d, rfl⟩ hK
    have HK := Lib.hid hK; clear hK
    have HX := Lib.hid hx
    simp (maxSteps:=1000000) (disch:=omega) only [lb_slices_IndexFunc_lapi_Set_api_Set2,encS,encE_eq,go_sem,wrapI,wrapB,upd_is,upd_not,Nat.reduceAdd,Nat.reduceSub,Nat.reduceMul,Nat.reduceLeDiff,Nat.reduceEqDiff,Int.reduceAdd,Int.reduceSub,Int.reduceMul,Int.reduceNeg,Int.reduceLT,Int.reduceLE,Int.reduceEq,Int.reduceToNat,reduceCtorEq,reduceIte,Nat.zero_add,Nat.add_zero, *]
    refine CALL_con0 (H.out x (List.mem_of_getElem? hx)) (by simp only [encS, encE_eq, List.cons_append, List.nil_append, brwL_cons, brw_tr, brw_ag, brw_s, brw_sc, brwL_nil, HC.out, Option.map_some, List.append_nil]) ?_
    cases hq : q x with
    | true =>
      simp (maxSteps:=1000000) (disch:=omega) only [go_sem,wrapI,wrapB,upd_is,upd_not,Nat.reduceAdd,Nat.reduceSub,Nat.reduceMul,Nat.reduceLeDiff,Nat.reduceEqDiff,Int.reduceAdd,Int.reduceSub,Int.reduceMul,Int.reduceNeg,Int.reduceLT,Int.reduceLE,Int.reduceEq,Int.reduceToNat,reduceCtorEq,reduceIte,Nat.zero_add,Nat.add_zero, *]
      exact RC_ret rfl (by rw [ixL_here hx h0 hq])
    | false =>
      simp (maxSteps:=1000000) (disch:=omega) only [go_sem,wrapI,wrapB,upd_is,upd_not,Nat.reduceAdd,Nat.reduceSub,Nat.reduceMul,Nat.reduceLeDiff,Nat.reduceEqDiff,Int.reduceAdd,Int.reduceSub,Int.reduceMul,Int.reduceNeg,Int.reduceLT,Int.reduceLE,Int.reduceEq,Int.reduceToNat,reduceCtorEq,reduceIte,Nat.zero_add,Nat.add_zero, *]
      exact HK.out _ _ (Nat.le_refl _) ⟨by rw [any_take hx, h0, hq]; rfl, _, _, _, _, rfl⟩
  · rintro K s' n' hn ⟨h0, a, b, c, d, rfl⟩
    rw [List.take_length] at h0
    simp (maxSteps:=1000000) (disch:=omega) only [lb_slices_IndexFunc_lapi_Set_api_Set2,go_sem,wrapI,wrapB,upd_is,upd_not,Nat.reduceAdd,Nat.reduceSub,Nat.reduceMul,Nat.reduceLeDiff,Nat.reduceEqDiff,Int.reduceAdd,Int.reduceSub,Int.reduceMul,Int.reduceNeg,Int.reduceLT,Int.reduceLE,Int.reduceEq,Int.reduceToNat,reduceCtorEq,reduceIte,Nat.zero_add,Nat.add_zero, *]
    exact RC_ret rfl (by rw [ixL_no h0])
theorem cfS_con (g : FuncId) (caps : List AV) (q : Se → Bool) (xs : List (Se)) (hc : ∀ σ, brwL σ 6 caps = some (caps, [])) (hc2 : ∀ σ, brwL σ 5 caps = some (caps, [])) (h : ∀ x ∈ xs, Con Tryd.prog g ([.ag (encS x)] ++ caps) (.ret (.sc (.bool (q x))))) :
    Con Tryd.prog 95 [.tr (xs.map encS), .fn g caps] (.ret (.sc (.bool (xs.any q)))) := by
  refine con_of (by_slices_ContainsFunc_lapi_Set_api_Set ?_)
  have HI := Lib.hid (ixS_con g caps q xs hc h)
  have HC := Lib.hid hc2
  have h9 := ixL_neg (q := q) (xs := xs)
  clear hc hc2
  simp (maxSteps:=1000000) (disch:=omega) only [sh_slices_ContainsFunc_lapi_Set_api_Set,go_sem,wrapI,wrapB,upd_is,upd_not,Nat.reduceAdd,Nat.reduceSub,Nat.reduceMul,Nat.reduceLeDiff,Nat.reduceEqDiff,Int.reduceAdd,Int.reduceSub,Int.reduceMul,Int.reduceNeg,Int.reduceLT,Int.reduceLE,Int.reduceEq,Int.reduceToNat,reduceCtorEq,reduceIte,Nat.zero_add,Nat.add_zero, *]
  refine CALL_con0 HI.out (by simp only [List.cons_append, List.nil_append, brwL_cons, brw_tr, brw_fn, HC.out, Option.map_some, brwL_nil, List.append_nil]) ?_
  simp (maxSteps:=1000000) (disch:=omega) only [go_sem,wrapI,wrapB,upd_is,upd_not,Nat.reduceAdd,Nat.reduceSub,Nat.reduceMul,Nat.reduceLeDiff,Nat.reduceEqDiff,Int.reduceAdd,Int.reduceSub,Int.reduceMul,Int.reduceNeg,Int.reduceLT,Int.reduceLE,Int.reduceEq,Int.reduceToNat,reduceCtorEq,reduceIte,Nat.zero_add,Nat.add_zero, *]
  exact RC_ret rfl (by rw [← h9])
theorem ixO_con (g : FuncId) (caps : List AV) (q : Od → Bool) (xs : List (Od)) (hc : ∀ σ, brwL σ 6 caps = some (caps, [])) (h : ∀ x ∈ xs, Con Tryd.prog g ([.ag (encO x)] ++ caps) (.ret (.sc (.bool (q x))))) :
    Con Tryd.prog 123 [.tr (xs.map encO), .fn g caps] (.ret (.sc (.int .i64 (ixL q xs)))) := by
  refine con_of (by_slices_IndexFunc_lapi_Order_api_Order ?_)
  have H := Lib.hid h; clear h
  have HC := Lib.hid hc; clear hc
  simp (maxSteps:=1000000) (disch:=omega) only [sh_slices_IndexFunc_lapi_Order_api_Order,go_sem,wrapI,wrapB,upd_is,upd_not,Nat.reduceAdd,Nat.reduceSub,Nat.reduceMul,Nat.reduceLeDiff,Nat.reduceEqDiff,Int.reduceAdd,Int.reduceSub,Int.reduceMul,Int.reduceNeg,Int.reduceLT,Int.reduceLE,Int.reduceEq,Int.reduceToNat,reduceCtorEq,reduceIte,Nat.zero_add,Nat.add_zero, *]
  intro hl
  refine LOOP_list xs (fun i s => (xs.take i).any q = false ∧ ∃ a b c d, s = [a, b, c, d, .sc (.int .i64 i)]) ⟨rfl, _, _, _, _, rfl⟩ ?_ ?_
  · rintro i x K s' n' hx hi hi' hn ⟨h0, a, b, c, d, rfl⟩ hK
    have HK := Lib.hid hK; clear hK
    have HX := Lib.hid hx
    simp (maxSteps:=1000000) (disch:=omega) only [lb_slices_IndexFunc_lapi_Order_api_Order2,encO,go_sem,wrapI,wrapB,upd_is,upd_not,Nat.reduceAdd,Nat.reduceSub,Nat.reduceMul,Nat.reduceLeDiff,Nat.reduceEqDiff,Int.reduceAdd,Int.reduceSub,Int.reduceMul,Int.reduceNeg,Int.reduceLT,Int.reduceLE,Int.reduceEq,Int.reduceToNat,reduceCtorEq,reduceIte,Nat.zero_add,Nat.add_zero, *]
    refine CALL_con0 (H.out x (List.mem_of_getElem? hx)) (by simp only [encO, List.cons_append, List.nil_append, brwL_cons, brw_sc, brw_ag, brw_s, brw_sc, brwL_nil, HC.out, Option.map_some, List.append_nil]) ?_
    cases hq : q x with
    | true =>
      simp (maxSteps:=1000000) (disch:=omega) only [go_sem,wrapI,wrapB,upd_is,upd_not,Nat.reduceAdd,Nat.reduceSub,Nat.reduceMul,Nat.reduceLeDiff,Nat.reduceEqDiff,Int.reduceAdd,Int.reduceSub,Int.reduceMul,Int.reduceNeg,Int.reduceLT,Int.reduceLE,Int.reduceEq,Int.reduceToNat,reduceCtorEq,reduceIte,Nat.zero_add,Nat.add_zero, *]
      exact RC_ret rfl (by rw [ixL_here hx h0 hq])
    | false =>
      simp (maxSteps:=1000000) (disch:=omega) only [go_sem,wrapI,wrapB,upd_is,upd_not,Nat.reduceAdd,Nat.reduceSub,Nat.reduceMul,Nat.reduceLeDiff,Nat.reduceEqDiff,Int.reduceAdd,Int.reduceSub,Int.reduceMul,Int.reduceNeg,Int.reduceLT,Int.reduceLE,Int.reduceEq,Int.reduceToNat,reduceCtorEq,reduceIte,Nat.zero_add,Nat.add_zero, *]
      exact HK.out _ _ (Nat.le_refl _) ⟨by rw [any_take hx, h0, hq]; rfl, _, _, _, _, rfl⟩
  · rintro K s' n' hn ⟨h0, a, b, c, d, rfl⟩
    rw [List.take_length] at h0
    simp (maxSteps:=1000000) (disch:=omega) only [lb_slices_IndexFunc_lapi_Order_api_Order2,go_sem,wrapI,wrapB,upd_is,upd_not,Nat.reduceAdd,Nat.reduceSub,Nat.reduceMul,Nat.reduceLeDiff,Nat.reduceEqDiff,Int.reduceAdd,Int.reduceSub,Int.reduceMul,Int.reduceNeg,Int.reduceLT,Int.reduceLE,Int.reduceEq,Int.reduceToNat,reduceCtorEq,reduceIte,Nat.zero_add,Nat.add_zero, *]
    exact RC_ret rfl (by rw [ixL_no h0])
theorem cfO_con (g : FuncId) (caps : List AV) (q : Od → Bool) (xs : List (Od)) (hc : ∀ σ, brwL σ 6 caps = some (caps, [])) (hc2 : ∀ σ, brwL σ 5 caps = some (caps, [])) (h : ∀ x ∈ xs, Con Tryd.prog g ([.ag (encO x)] ++ caps) (.ret (.sc (.bool (q x))))) :
    Con Tryd.prog 97 [.tr (xs.map encO), .fn g caps] (.ret (.sc (.bool (xs.any q)))) := by
  refine con_of (by_slices_ContainsFunc_lapi_Order_api_Order ?_)
  have HI := Lib.hid (ixO_con g caps q xs hc h)
  have HC := Lib.hid hc2
  have h9 := ixL_neg (q := q) (xs := xs)
  clear hc hc2
  simp (maxSteps:=1000000) (disch:=omega) only [sh_slices_ContainsFunc_lapi_Order_api_Order,go_sem,wrapI,wrapB,upd_is,upd_not,Nat.reduceAdd,Nat.reduceSub,Nat.reduceMul,Nat.reduceLeDiff,Nat.reduceEqDiff,Int.reduceAdd,Int.reduceSub,Int.reduceMul,Int.reduceNeg,Int.reduceLT,Int.reduceLE,Int.reduceEq,Int.reduceToNat,reduceCtorEq,reduceIte,Nat.zero_add,Nat.add_zero, *]
  refine CALL_con0 HI.out (by simp only [List.cons_append, List.nil_append, brwL_cons, brw_tr, brw_fn, HC.out, Option.map_some, brwL_nil, List.append_nil]) ?_
  simp (maxSteps:=1000000) (disch:=omega) only [go_sem,wrapI,wrapB,upd_is,upd_not,Nat.reduceAdd,Nat.reduceSub,Nat.reduceMul,Nat.reduceLeDiff,Nat.reduceEqDiff,Int.reduceAdd,Int.reduceSub,Int.reduceMul,Int.reduceNeg,Int.reduceLT,Int.reduceLE,Int.reduceEq,Int.reduceToNat,reduceCtorEq,reduceIte,Nat.zero_add,Nat.add_zero, *]
  exact RC_ret rfl (by rw [← h9])
theorem ixR_con (g : FuncId) (caps : List AV) (q : List Ep → Bool) (xs : List (List Ep)) (hc : ∀ σ, brwL σ 6 caps = some (caps, [])) (h : ∀ x ∈ xs, Con Tryd.prog g ([.tr (x.map encE)] ++ caps) (.ret (.sc (.bool (q x))))) :
    Con Tryd.prog 121 [.tr (xs.map encRx), .fn g caps] (.ret (.sc (.int .i64 (ixL q xs)))) := by
  refine con_of (by_slices_IndexFunc_llapi_Expr_lapi_Expr ?_)
  have H := Lib.hid h; clear h
  have HC := Lib.hid hc; clear hc
  simp (maxSteps:=1000000) (disch:=omega) only [sh_slices_IndexFunc_llapi_Expr_lapi_Expr,go_sem,wrapI,wrapB,upd_is,upd_not,Nat.reduceAdd,Nat.reduceSub,Nat.reduceMul,Nat.reduceLeDiff,Nat.reduceEqDiff,Int.reduceAdd,Int.reduceSub,Int.reduceMul,Int.reduceNeg,Int.reduceLT,Int.reduceLE,Int.reduceEq,Int.reduceToNat,reduceCtorEq,reduceIte,Nat.zero_add,Nat.add_zero, *]
  intro hl
  refine LOOP_list xs (fun i s => (xs.take i).any q = false ∧ ∃ a b c d, s = [a, b, c, d, .sc (.int .i64 i)]) ⟨rfl, _, _, _, _, rfl⟩ ?_ ?_
  · rintro i x K s' n' hx hi hi' hn ⟨h0, a, b, c, d, rfl⟩ hK
    have HK := Lib.hid hK; clear hK
    have HX := Lib.hid hx
    simp (maxSteps:=1000000) (disch:=omega) only [lb_slices_IndexFunc_llapi_Expr_lapi_Expr2,encRx,go_sem,wrapI,wrapB,upd_is,upd_not,Nat.reduceAdd,Nat.reduceSub,Nat.reduceMul,Nat.reduceLeDiff,Nat.reduceEqDiff,Int.reduceAdd,Int.reduceSub,Int.reduceMul,Int.reduceNeg,Int.reduceLT,Int.reduceLE,Int.reduceEq,Int.reduceToNat,reduceCtorEq,reduceIte,Nat.zero_add,Nat.add_zero, *]
    refine CALL_con0 (H.out x (List.mem_of_getElem? hx)) (by simp only [encRx, List.cons_append, List.nil_append, brwL_cons, brw_tr, brw_ag, brw_s, brw_sc, brwL_nil, HC.out, Option.map_some, List.append_nil]) ?_
    cases hq : q x with
    | true =>
      simp (maxSteps:=1000000) (disch:=omega) only [go_sem,wrapI,wrapB,upd_is,upd_not,Nat.reduceAdd,Nat.reduceSub,Nat.reduceMul,Nat.reduceLeDiff,Nat.reduceEqDiff,Int.reduceAdd,Int.reduceSub,Int.reduceMul,Int.reduceNeg,Int.reduceLT,Int.reduceLE,Int.reduceEq,Int.reduceToNat,reduceCtorEq,reduceIte,Nat.zero_add,Nat.add_zero, *]
      exact RC_ret rfl (by rw [ixL_here hx h0 hq])
    | false =>
      simp (maxSteps:=1000000) (disch:=omega) only [go_sem,wrapI,wrapB,upd_is,upd_not,Nat.reduceAdd,Nat.reduceSub,Nat.reduceMul,Nat.reduceLeDiff,Nat.reduceEqDiff,Int.reduceAdd,Int.reduceSub,Int.reduceMul,Int.reduceNeg,Int.reduceLT,Int.reduceLE,Int.reduceEq,Int.reduceToNat,reduceCtorEq,reduceIte,Nat.zero_add,Nat.add_zero, *]
      exact HK.out _ _ (Nat.le_refl _) ⟨by rw [any_take hx, h0, hq]; rfl, _, _, _, _, rfl⟩
  · rintro K s' n' hn ⟨h0, a, b, c, d, rfl⟩
    rw [List.take_length] at h0
    simp (maxSteps:=1000000) (disch:=omega) only [lb_slices_IndexFunc_llapi_Expr_lapi_Expr2,go_sem,wrapI,wrapB,upd_is,upd_not,Nat.reduceAdd,Nat.reduceSub,Nat.reduceMul,Nat.reduceLeDiff,Nat.reduceEqDiff,Int.reduceAdd,Int.reduceSub,Int.reduceMul,Int.reduceNeg,Int.reduceLT,Int.reduceLE,Int.reduceEq,Int.reduceToNat,reduceCtorEq,reduceIte,Nat.zero_add,Nat.add_zero, *]
    exact RC_ret rfl (by rw [ixL_no h0])
theorem cfR_con (g : FuncId) (caps : List AV) (q : List Ep → Bool) (xs : List (List Ep)) (hc : ∀ σ, brwL σ 6 caps = some (caps, [])) (hc2 : ∀ σ, brwL σ 5 caps = some (caps, [])) (h : ∀ x ∈ xs, Con Tryd.prog g ([.tr (x.map encE)] ++ caps) (.ret (.sc (.bool (q x))))) :
    Con Tryd.prog 93 [.tr (xs.map encRx), .fn g caps] (.ret (.sc (.bool (xs.any q)))) := by
  refine con_of (by_slices_ContainsFunc_llapi_Expr_lapi_Expr ?_)
  have HI := Lib.hid (ixR_con g caps q xs hc h)
  have HC := Lib.hid hc2
  have h9 := ixL_neg (q := q) (xs := xs)
  clear hc hc2
  simp (maxSteps:=1000000) (disch:=omega) only [sh_slices_ContainsFunc_llapi_Expr_lapi_Expr,go_sem,wrapI,wrapB,upd_is,upd_not,Nat.reduceAdd,Nat.reduceSub,Nat.reduceMul,Nat.reduceLeDiff,Nat.reduceEqDiff,Int.reduceAdd,Int.reduceSub,Int.reduceMul,Int.reduceNeg,Int.reduceLT,Int.reduceLE,Int.reduceEq,Int.reduceToNat,reduceCtorEq,reduceIte,Nat.zero_add,Nat.add_zero, *]
  refine CALL_con0 HI.out (by simp only [List.cons_append, List.nil_append, brwL_cons, brw_tr, brw_fn, HC.out, Option.map_some, brwL_nil, List.append_nil]) ?_
  simp (maxSteps:=1000000) (disch:=omega) only [go_sem,wrapI,wrapB,upd_is,upd_not,Nat.reduceAdd,Nat.reduceSub,Nat.reduceMul,Nat.reduceLeDiff,Nat.reduceEqDiff,Int.reduceAdd,Int.reduceSub,Int.reduceMul,Int.reduceNeg,Int.reduceLT,Int.reduceLE,Int.reduceEq,Int.reduceToNat,reduceCtorEq,reduceIte,Nat.zero_add,Nat.add_zero, *]
  exact RC_ret rfl (by rw [← h9])
theorem cfCol_con (g : FuncId) (caps : List AV) (q : Cl → Bool) (xs : List Cl) (hc : ∀ σ, brwL σ 6 caps = some (caps, [])) (hc2 : ∀ σ, brwL σ 5 caps = some (caps, [])) (h : ∀ x ∈ xs, Con Tryd.prog g ([.ag (encC x)] ++ caps) (.ret (.sc (.bool (q x))))) :
    Con Tryd.prog 91 [.tr (xs.map encC), .fn g caps] (.ret (.sc (.bool (xs.any q)))) := by
  refine con_of (by_slices_ContainsFunc_lapi_Column_api_Column ?_)
  have HI := Lib.hid (ixCol_con g caps q xs hc h)
  have HC := Lib.hid hc2
  have h9 := ixL_neg (q := q) (xs := xs)
  clear hc hc2
  simp (maxSteps:=1000000) (disch:=omega) only [sh_slices_ContainsFunc_lapi_Column_api_Column,go_sem,wrapI,wrapB,upd_is,upd_not,Nat.reduceAdd,Nat.reduceSub,Nat.reduceMul,Nat.reduceLeDiff,Nat.reduceEqDiff,Int.reduceAdd,Int.reduceSub,Int.reduceMul,Int.reduceNeg,Int.reduceLT,Int.reduceLE,Int.reduceEq,Int.reduceToNat,reduceCtorEq,reduceIte,Nat.zero_add,Nat.add_zero, *]
  refine CALL_con0 HI.out (by simp only [List.cons_append, List.nil_append, brwL_cons, brw_tr, brw_fn, HC.out, Option.map_some, brwL_nil, List.append_nil]) ?_
  simp (maxSteps:=1000000) (disch:=omega) only [go_sem,wrapI,wrapB,upd_is,upd_not,Nat.reduceAdd,Nat.reduceSub,Nat.reduceMul,Nat.reduceLeDiff,Nat.reduceEqDiff,Int.reduceAdd,Int.reduceSub,Int.reduceMul,Int.reduceNeg,Int.reduceLT,Int.reduceLE,Int.reduceEq,Int.reduceToNat,reduceCtorEq,reduceIte,Nat.zero_add,Nat.add_zero, *]
  exact RC_ret rfl (by rw [← h9])
end Go.Proofs.YtodoejfkjimeaaaDoor
