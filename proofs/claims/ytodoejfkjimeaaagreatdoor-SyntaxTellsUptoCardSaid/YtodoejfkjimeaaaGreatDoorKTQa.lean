/- Packed by a program of this repo: Qa Qd Qb Qe Qc. -/
import Derived.Test.YtodoejfkjimeaaaGreatDoorKTDd
import Derived.Test.YtodoejfkjimeaaaGreatDoorKTSh6
import Derived.Test.YtodoejfkjimeaaaGreatDoorKTSh6b
import Derived.Test.YtodoejfkjimeaaaGreatDoorKTMs
set_option linter.unusedSimpArgs false
set_option linter.unusedVariables false
set_option maxRecDepth 100000
namespace Go.Proofs.YtodoejfkjimeaaaGreatDoor
open Go Go.RowKit Am
attribute [-go_sem] guardP_if guardK_if guardD_if COND_bool
attribute [local go_sem low] guardP_if guardK_if guardD_if COND_bool
attribute [local go_sem] wrapI wrapB upd_is upd_not Nat.zero_add Nat.add_zero
attribute [local go_sem_proc] Nat.reduceAdd Nat.reduceSub Nat.reduceMul Nat.reduceLeDiff Nat.reduceEqDiff Int.reduceAdd Int.reduceSub Int.reduceMul Int.reduceNeg Int.reduceLT Int.reduceLE Int.reduceEq Int.reduceToNat reduceCtorEq reduceIte

structure Se where
  name : Tx
  ex : Ep
def encS (x : Se) : List AV := .s x.name :: encE x.ex
structure Od where
  n : Int
  desc : Bool
def encO (x : Od) : List AV := [.sc (.int .i64 x.n), .sc (.bool x.desc)]
def encRx (l : List Ep) : List AV := [.tr (l.map encE)]
structure Sm where
  kind : Int
  table : Tx
  columns : List Cl
  key : Tx
  index : Tx
  rows : List (List Ep)
  sets : List Se
  items : List Ep
  join : Tx
  on : List Ep
  where_ : List Ep
  group : List Ep
  order : List Od
  limit : Int
def encSm (x : Sm) : List AV := [.sc (.int .i64 x.kind), .s x.table, .tr (x.columns.map encC), .s x.key, .s x.index, .tr (x.rows.map encRx), .tr (x.sets.map encS), .tr (x.items.map encE), .s x.join,
  .tr (x.on.map encE), .tr (x.where_.map encE), .tr (x.group.map encE), .tr (x.order.map encO), .sc (.int .i64 x.limit)]
theorem encS_len (x : Se) : (encS x).length = 8 := by unfold encS; rw [List.length_cons, encE_len]
theorem encO_len (x : Od) : (encO x).length = 2 := rfl
theorem encRx_len (x : List Ep) : (encRx x).length = 1 := rfl
theorem encS_all (l : List Se) : ((l.map encS).all fun r => r.length == 8) = true := all_enc encS 8 encS_len l
theorem encO_all (l : List Od) : ((l.map encO).all fun r => r.length == 2) = true := all_enc encO 2 encO_len l
theorem encRx_all (l : List (List Ep)) : ((l.map encRx).all fun r => r.length == 1) = true := all_enc encRx 1 encRx_len l
theorem encS_leafs (l : List Se) : ((l.map encS).all fun r => r.all leafok) = true := by simp [encS, encE_eq, leafok]
theorem encO_leafs (l : List Od) : ((l.map encO).all fun r => r.all leafok) = true := by simp [encO, leafok]
theorem encRx_leafs (l : List (List Ep)) : ((l.map encRx).all fun r => r.all leafok) = true := by simp [encRx, leafok]
attribute [go_sem] encS_len encO_len encRx_len encS_all encO_all encRx_all encS_leafs encO_leafs encRx_leafs
theorem ixL_neg {α : Type} {q : α → Bool} {xs : List α} : decide (0 ≤ ixL q xs) = xs.any q := by
  cases h : xs.any q with
  | false => rw [ixL_no h]; rfl
  | true =>
    unfold ixL; rw [h]
    simp
theorem ixS_con (g : FuncId) (caps : List AV) (q : Se → Bool) (xs : List (Se)) (hc : ∀ σ, brwL σ 6 caps = some (caps, [])) (h : ∀ x ∈ xs, Con Tryz.prog g ([.ag (encS x)] ++ caps) (.ret (.sc (.bool (q x))))) :
    Con Tryz.prog 80 [.tr (xs.map encS), .fn g caps] (.ret (.sc (.int .i64 (ixL q xs)))) := by
  refine con_of (by_slices_IndexFunc_lapi_Set_api_Set ?_)
  have H := Lib.hid h; clear h
  have HC := Lib.hid hc; clear hc
  simp (maxSteps:=1000000) (disch:=omega) only [sh_slices_IndexFunc_lapi_Set_api_Set,go_sem, *]
  intro hl
  refine LOOP_list xs (fun i s => (xs.take i).any q = false ∧ ∃ a b c d, s = [a, b, c, d, .sc (.int .i64 i)]) ⟨rfl, _, _, _, _, rfl⟩ ?_ ?_
  · rintro i x K s' n' hx hi hi' hn ⟨h0, a, b, c, d, rfl⟩ hK
    have HK := Lib.hid hK; clear hK
    have HX := Lib.hid hx
    simp (maxSteps:=1000000) (disch:=omega) only [lb_slices_IndexFunc_lapi_Set_api_Set2,encS,encE_eq,go_sem, *]
    refine CALL_con0 (H.out x (List.mem_of_getElem? hx)) (by simp only [encS, encE_eq, List.cons_append, List.nil_append, brwL_cons, brw_tr, brw_ag, brw_s, brw_sc, brwL_nil, HC.out, Option.map_some, List.append_nil]) ?_
    cases hq : q x with
    | true =>
      simp (maxSteps:=1000000) (disch:=omega) only [go_sem, *]
      exact RC_ret rfl (by rw [ixL_here hx h0 hq])
    | false =>
      simp (maxSteps:=1000000) (disch:=omega) only [go_sem, *]
      exact HK.out _ _ (Nat.le_refl _) ⟨by rw [any_take hx, h0, hq]; rfl, _, _, _, _, rfl⟩
  · rintro K s' n' hn ⟨h0, a, b, c, d, rfl⟩
    rw [List.take_length] at h0
    simp (maxSteps:=1000000) (disch:=omega) only [lb_slices_IndexFunc_lapi_Set_api_Set2,go_sem, *]
    exact RC_ret rfl (by rw [ixL_no h0])
theorem cfS_con (g : FuncId) (caps : List AV) (q : Se → Bool) (xs : List (Se)) (hc : ∀ σ, brwL σ 6 caps = some (caps, [])) (hc2 : ∀ σ, brwL σ 5 caps = some (caps, [])) (h : ∀ x ∈ xs, Con Tryz.prog g ([.ag (encS x)] ++ caps) (.ret (.sc (.bool (q x))))) :
    Con Tryz.prog 56 [.tr (xs.map encS), .fn g caps] (.ret (.sc (.bool (xs.any q)))) := by
  refine con_of (by_slices_ContainsFunc_lapi_Set_api_Set ?_)
  have HI := Lib.hid (ixS_con g caps q xs hc h)
  have HC := Lib.hid hc2
  have h9 := ixL_neg (q := q) (xs := xs)
  clear hc hc2
  simp (maxSteps:=1000000) (disch:=omega) only [sh_slices_ContainsFunc_lapi_Set_api_Set,go_sem, *]
  refine CALL_con0 HI.out (by simp only [List.cons_append, List.nil_append, brwL_cons, brw_tr, brw_fn, HC.out, Option.map_some, brwL_nil, List.append_nil]) ?_
  simp (maxSteps:=1000000) (disch:=omega) only [go_sem, *]
  exact RC_ret rfl (by rw [← h9])
theorem ixO_con (g : FuncId) (caps : List AV) (q : Od → Bool) (xs : List (Od)) (hc : ∀ σ, brwL σ 6 caps = some (caps, [])) (h : ∀ x ∈ xs, Con Tryz.prog g ([.ag (encO x)] ++ caps) (.ret (.sc (.bool (q x))))) :
    Con Tryz.prog 81 [.tr (xs.map encO), .fn g caps] (.ret (.sc (.int .i64 (ixL q xs)))) := by
  refine con_of (by_slices_IndexFunc_lapi_Order_api_Order ?_)
  have H := Lib.hid h; clear h
  have HC := Lib.hid hc; clear hc
  simp (maxSteps:=1000000) (disch:=omega) only [sh_slices_IndexFunc_lapi_Order_api_Order,go_sem, *]
  intro hl
  refine LOOP_list xs (fun i s => (xs.take i).any q = false ∧ ∃ a b c d, s = [a, b, c, d, .sc (.int .i64 i)]) ⟨rfl, _, _, _, _, rfl⟩ ?_ ?_
  · rintro i x K s' n' hx hi hi' hn ⟨h0, a, b, c, d, rfl⟩ hK
    have HK := Lib.hid hK; clear hK
    have HX := Lib.hid hx
    simp (maxSteps:=1000000) (disch:=omega) only [lb_slices_IndexFunc_lapi_Order_api_Order2,encO,go_sem, *]
    refine CALL_con0 (H.out x (List.mem_of_getElem? hx)) (by simp only [encO, List.cons_append, List.nil_append, brwL_cons, brw_sc, brw_ag, brw_s, brw_sc, brwL_nil, HC.out, Option.map_some, List.append_nil]) ?_
    cases hq : q x with
    | true =>
      simp (maxSteps:=1000000) (disch:=omega) only [go_sem, *]
      exact RC_ret rfl (by rw [ixL_here hx h0 hq])
    | false =>
      simp (maxSteps:=1000000) (disch:=omega) only [go_sem, *]
      exact HK.out _ _ (Nat.le_refl _) ⟨by rw [any_take hx, h0, hq]; rfl, _, _, _, _, rfl⟩
  · rintro K s' n' hn ⟨h0, a, b, c, d, rfl⟩
    rw [List.take_length] at h0
    simp (maxSteps:=1000000) (disch:=omega) only [lb_slices_IndexFunc_lapi_Order_api_Order2,go_sem, *]
    exact RC_ret rfl (by rw [ixL_no h0])
theorem cfO_con (g : FuncId) (caps : List AV) (q : Od → Bool) (xs : List (Od)) (hc : ∀ σ, brwL σ 6 caps = some (caps, [])) (hc2 : ∀ σ, brwL σ 5 caps = some (caps, [])) (h : ∀ x ∈ xs, Con Tryz.prog g ([.ag (encO x)] ++ caps) (.ret (.sc (.bool (q x))))) :
    Con Tryz.prog 58 [.tr (xs.map encO), .fn g caps] (.ret (.sc (.bool (xs.any q)))) := by
  refine con_of (by_slices_ContainsFunc_lapi_Order_api_Order ?_)
  have HI := Lib.hid (ixO_con g caps q xs hc h)
  have HC := Lib.hid hc2
  have h9 := ixL_neg (q := q) (xs := xs)
  clear hc hc2
  simp (maxSteps:=1000000) (disch:=omega) only [sh_slices_ContainsFunc_lapi_Order_api_Order,go_sem, *]
  refine CALL_con0 HI.out (by simp only [List.cons_append, List.nil_append, brwL_cons, brw_tr, brw_fn, HC.out, Option.map_some, brwL_nil, List.append_nil]) ?_
  simp (maxSteps:=1000000) (disch:=omega) only [go_sem, *]
  exact RC_ret rfl (by rw [← h9])
theorem ixR_con (g : FuncId) (caps : List AV) (q : List Ep → Bool) (xs : List (List Ep)) (hc : ∀ σ, brwL σ 6 caps = some (caps, [])) (h : ∀ x ∈ xs, Con Tryz.prog g ([.tr (x.map encE)] ++ caps) (.ret (.sc (.bool (q x))))) :
    Con Tryz.prog 79 [.tr (xs.map encRx), .fn g caps] (.ret (.sc (.int .i64 (ixL q xs)))) := by
  refine con_of (by_slices_IndexFunc_llapi_Expr_lapi_Expr ?_)
  have H := Lib.hid h; clear h
  have HC := Lib.hid hc; clear hc
  simp (maxSteps:=1000000) (disch:=omega) only [sh_slices_IndexFunc_llapi_Expr_lapi_Expr,go_sem, *]
  intro hl
  refine LOOP_list xs (fun i s => (xs.take i).any q = false ∧ ∃ a b c d, s = [a, b, c, d, .sc (.int .i64 i)]) ⟨rfl, _, _, _, _, rfl⟩ ?_ ?_
  · rintro i x K s' n' hx hi hi' hn ⟨h0, a, b, c, d, rfl⟩ hK
    have HK := Lib.hid hK; clear hK
    have HX := Lib.hid hx
    simp (maxSteps:=1000000) (disch:=omega) only [lb_slices_IndexFunc_llapi_Expr_lapi_Expr2,encRx,go_sem, *]
    refine CALL_con0 (H.out x (List.mem_of_getElem? hx)) (by simp only [encRx, List.cons_append, List.nil_append, brwL_cons, brw_tr, brw_ag, brw_s, brw_sc, brwL_nil, HC.out, Option.map_some, List.append_nil]) ?_
    cases hq : q x with
    | true =>
      simp (maxSteps:=1000000) (disch:=omega) only [go_sem, *]
      exact RC_ret rfl (by rw [ixL_here hx h0 hq])
    | false =>
      simp (maxSteps:=1000000) (disch:=omega) only [go_sem, *]
      exact HK.out _ _ (Nat.le_refl _) ⟨by rw [any_take hx, h0, hq]; rfl, _, _, _, _, rfl⟩
  · rintro K s' n' hn ⟨h0, a, b, c, d, rfl⟩
    rw [List.take_length] at h0
    simp (maxSteps:=1000000) (disch:=omega) only [lb_slices_IndexFunc_llapi_Expr_lapi_Expr2,go_sem, *]
    exact RC_ret rfl (by rw [ixL_no h0])
theorem cfR_con (g : FuncId) (caps : List AV) (q : List Ep → Bool) (xs : List (List Ep)) (hc : ∀ σ, brwL σ 6 caps = some (caps, [])) (hc2 : ∀ σ, brwL σ 5 caps = some (caps, [])) (h : ∀ x ∈ xs, Con Tryz.prog g ([.tr (x.map encE)] ++ caps) (.ret (.sc (.bool (q x))))) :
    Con Tryz.prog 54 [.tr (xs.map encRx), .fn g caps] (.ret (.sc (.bool (xs.any q)))) := by
  refine con_of (by_slices_ContainsFunc_llapi_Expr_lapi_Expr ?_)
  have HI := Lib.hid (ixR_con g caps q xs hc h)
  have HC := Lib.hid hc2
  have h9 := ixL_neg (q := q) (xs := xs)
  clear hc hc2
  simp (maxSteps:=1000000) (disch:=omega) only [sh_slices_ContainsFunc_llapi_Expr_lapi_Expr,go_sem, *]
  refine CALL_con0 HI.out (by simp only [List.cons_append, List.nil_append, brwL_cons, brw_tr, brw_fn, HC.out, Option.map_some, brwL_nil, List.append_nil]) ?_
  simp (maxSteps:=1000000) (disch:=omega) only [go_sem, *]
  exact RC_ret rfl (by rw [← h9])
theorem cfCol_con (g : FuncId) (caps : List AV) (q : Cl → Bool) (xs : List Cl) (hc : ∀ σ, brwL σ 6 caps = some (caps, [])) (hc2 : ∀ σ, brwL σ 5 caps = some (caps, [])) (h : ∀ x ∈ xs, Con Tryz.prog g ([.ag (encC x)] ++ caps) (.ret (.sc (.bool (q x))))) :
    Con Tryz.prog 52 [.tr (xs.map encC), .fn g caps] (.ret (.sc (.bool (xs.any q)))) := by
  refine con_of (by_slices_ContainsFunc_lapi_Column_api_Column ?_)
  have HI := Lib.hid (ixCol_con g caps q xs hc h)
  have HC := Lib.hid hc2
  have h9 := ixL_neg (q := q) (xs := xs)
  clear hc hc2
  simp (maxSteps:=1000000) (disch:=omega) only [sh_slices_ContainsFunc_lapi_Column_api_Column,go_sem, *]
  refine CALL_con0 HI.out (by simp only [List.cons_append, List.nil_append, brwL_cons, brw_tr, brw_fn, HC.out, Option.map_some, brwL_nil, List.append_nil]) ?_
  simp (maxSteps:=1000000) (disch:=omega) only [go_sem, *]
  exact RC_ret rfl (by rw [← h9])
end Go.Proofs.YtodoejfkjimeaaaGreatDoor

set_option linter.unusedSimpArgs false
set_option linter.unusedVariables false
set_option maxRecDepth 100000
namespace Go.Proofs.YtodoejfkjimeaaaGreatDoor
open Go Go.RowKit Am
attribute [-go_sem] guardP_if guardK_if guardD_if COND_bool
attribute [local go_sem low] guardP_if guardK_if guardD_if COND_bool
attribute [local go_sem] wrapI wrapB upd_is upd_not Nat.zero_add Nat.add_zero
attribute [local go_sem_proc] Nat.reduceAdd Nat.reduceSub Nat.reduceMul Nat.reduceLeDiff Nat.reduceEqDiff Int.reduceAdd Int.reduceSub Int.reduceMul Int.reduceNeg Int.reduceLT Int.reduceLE Int.reduceEq Int.reduceToNat reduceCtorEq reduceIte

theorem clR_con (l : List (List Ep)) (hl : l.length ≤ 1048576) (id : Nat) : ConW Tryz.prog 60 [.tr (l.map encRx)] [] id (.ret (.ow id 1 0 l.length)) [(id, some (.c ⟨1, l.map encRx, true, true⟩))] := by
  refine conW_ofE (k := 1) (cl := true) (by kernel_rfl) (fun σ n _ hid hn hf => by_slices_Clone_llapi_Expr_lapi_Expr ?_)
  generalize hR : (fun (r' : AEnd) (σ' : Hp) (_ : Nat) => _) = R
  have HR := Lib.hid hR; clear hR
  have hfr : ∀ j, n ≤ j → ∀ q, q < 16 → j ≠ id + q := fun j hj q hq => by omega
  have HFR := Lib.hid hfr; clear hfr
  have HF := Lib.hid hf; clear hf
  have hnn : ¬ n = n + 16 := by omega
  cases l with
  | nil =>
    simp (maxSteps:=1000000) (disch:=omega) only [sh_slices_Clone_llapi_Expr_lapi_Expr,go_sem, *]
    constructor
    · rw [← HR.out]
      exact .inr ⟨rfl, rfl, rfl, fun i x h => h⟩
    · rw [← HR.out]
      refine .inl (wn_new ?_ (HFR.out _ (by omega)) (HF.out _ (by omega)) (fun i y hy => ?_))
      · simp only [upd_is]
        rfl
      · have h1 : i ≠ n := fun e => by rw [e, HF.out n (by omega)] at hy; cases hy
        have h2 : i ≠ n + 16 := fun e => by rw [e, HF.out (n + 16) (by omega)] at hy; cases hy
        simp only [upd_not h1, upd_not h2]; exact hy
  | cons v r =>
    have hl2 : (r.length + 1) * 24 ≤ 140737488355328 := by simp at hl; omega
    simp (maxSteps:=1000000) (disch:=omega) only [sh_slices_Clone_llapi_Expr_lapi_Expr,encRx,go_sem, *]
    rw [← HR.out]
    refine .inl (wn_new ?_ (HFR.out _ (by omega)) (HF.out _ (by omega)) (fun i y hy => ?_))
    · simp only [upd_is]
      rfl
    · have h1 : i ≠ n := fun e => by rw [e, HF.out n (by omega)] at hy; cases hy
      have h2 : i ≠ n + 16 := fun e => by rw [e, HF.out (n + 16) (by omega)] at hy; cases hy
      simp only [upd_not h1, upd_not h2]; exact hy
end Go.Proofs.YtodoejfkjimeaaaGreatDoor

set_option linter.unusedSimpArgs false
set_option linter.unusedVariables false
set_option maxRecDepth 100000
namespace Go.Proofs.YtodoejfkjimeaaaGreatDoor
open Go Go.RowKit Am
attribute [-go_sem] guardP_if guardK_if guardD_if COND_bool
attribute [local go_sem low] guardP_if guardK_if guardD_if COND_bool
attribute [local go_sem] wrapI wrapB upd_is upd_not Nat.zero_add Nat.add_zero
attribute [local go_sem_proc] Nat.reduceAdd Nat.reduceSub Nat.reduceMul Nat.reduceLeDiff Nat.reduceEqDiff Int.reduceAdd Int.reduceSub Int.reduceMul Int.reduceNeg Int.reduceLT Int.reduceLE Int.reduceEq Int.reduceToNat reduceCtorEq reduceIte

structure LBd (l : List Ep) : Prop where
  len : l.length ≤ 1048576
  bd : ∀ e ∈ l, Bd e
structure SBd (x : Sm) : Prop where
  table : x.table.length ≤ 1048576
  key : x.key.length ≤ 1048576
  index : x.index.length ≤ 1048576
  join : x.join.length ≤ 1048576
  cols : x.columns.length ≤ 1048576
  col : ∀ c ∈ x.columns, c.name.length ≤ 1048576
  rows : x.rows.length ≤ 1048576
  row : ∀ l ∈ x.rows, LBd l
  sets : x.sets.length ≤ 1048576
  set : ∀ s ∈ x.sets, s.name.length ≤ 1048576 ∧ Bd s.ex
  items : LBd x.items
  on : LBd x.on
  where_ : LBd x.where_
  group : LBd x.group
  order : x.order.length ≤ 1048576
def namedF (s : Tx) (asked : Bool) : Bool := if asked then nameL s else decide (s = [])
def countF (n most : Int) (asked : Bool) (least : Int) : Bool := if asked then decide (least ≤ n) && decide (n ≤ most) else decide (n = 0)
def colBad (c : Cl) : Bool := !nameL c.name || decide (c.kind < 1) || decide (3 < c.kind)
def rowBad (l : List Ep) : Bool := decide ((l.length : Int) < 1) || decide (8 < (l.length : Int))
def setBad (s : Se) : Bool := !nameL s.name
def ordBad (o : Od) : Bool := decide (o.n < 1) || decide (16 < o.n)
theorem named_con (s : Tx) (asked : Bool) (hs : s.length ≤ 1048576) : Con Tryz.prog 50 [.s s, .sc (.bool asked)] (.ret (.sc (.bool (namedF s asked)))) := by
  refine con_of (by_syntax_named ?_)
  cases asked
  · simp (maxSteps:=1000000) (disch:=omega) only [sh_syntax_named,go_sem, *]
    exact RC_ret rfl rfl
  · simp (maxSteps:=1000000) (disch:=omega) only [sh_syntax_named,go_sem, *]
    refine CALL_con0 (name_con s (by omega)) rfl ?_
    simp (maxSteps:=1000000) (disch:=omega) only [go_sem, *]
    exact RC_ret rfl rfl
theorem count_con (n most least : Int) (asked : Bool) : Con Tryz.prog 51 [.sc (.int .i64 n), .sc (.int .i64 most), .sc (.bool asked), .sc (.int .i64 least)] (.ret (.sc (.bool (countF n most asked least)))) := by
  refine con_of (by_syntax_count ?_)
  cases asked
  · simp (maxSteps:=1000000) (disch:=omega) only [sh_syntax_count,go_sem, *]
    exact RC_ret rfl rfl
  · by_cases h : least ≤ n
    · simp (maxSteps:=1000000) (disch:=omega) only [sh_syntax_count,go_sem, *]
      exact RC_ret rfl (by simp [countF, h])
    · simp (maxSteps:=1000000) (disch:=omega) only [sh_syntax_count,go_sem, *]
      exact RC_ret rfl (by simp [countF, h])
theorem colBad_con (c : Cl) (hc : c.name.length ≤ 1048576) : Con Tryz.prog 53 [.ag (encC c)] (.ret (.sc (.bool (colBad c)))) := by
  refine con_of (by_syntax_shape_c1 ?_)
  have HN := Lib.hid (name_con c.name (by omega)); clear hc
  simp (maxSteps:=1000000) (disch:=omega) only [sh_syntax_shape_c1,encC,go_sem, *]
  refine CALL_con0 HN.out rfl ?_
  cases h1 : nameL c.name
  · simp (maxSteps:=1000000) (disch:=omega) only [go_sem, *]
    exact RC_ret rfl (by simp [colBad, h1])
  · by_cases h2 : c.kind < 1
    · simp (maxSteps:=1000000) (disch:=omega) only [go_sem, *]
      exact RC_ret rfl (by simp [colBad, h1, h2])
    · simp (maxSteps:=1000000) (disch:=omega) only [go_sem, *]
      exact RC_ret rfl (by simp [colBad, h1, h2])
theorem rowBad_con (l : List Ep) (hl : l.length ≤ 1048576) : Con Tryz.prog 55 [.tr (l.map encE)] (.ret (.sc (.bool (rowBad l)))) := by
  refine con_of (by_syntax_shape_c2 ?_)
  by_cases h2 : (l.length : Int) < 1
  · simp (maxSteps:=1000000) (disch:=omega) only [sh_syntax_shape_c2,go_sem, *]
    intro _
    exact RC_ret rfl (by simp [rowBad, h2])
  · simp (maxSteps:=1000000) (disch:=omega) only [sh_syntax_shape_c2,go_sem, *]
    intro _
    exact RC_ret rfl (by simp [rowBad, h2])
theorem setBad_con (s : Se) (hs : s.name.length ≤ 1048576) : Con Tryz.prog 57 [.ag (encS s)] (.ret (.sc (.bool (setBad s)))) := by
  refine con_of (by_syntax_shape_c3 ?_)
  have HN := Lib.hid (name_con s.name (by omega)); clear hs
  simp (maxSteps:=1000000) (disch:=omega) only [sh_syntax_shape_c3,encS,encE_eq,go_sem, *]
  refine CALL_con0 HN.out rfl ?_
  simp (maxSteps:=1000000) (disch:=omega) only [go_sem, *]
  exact RC_ret rfl rfl
theorem ordBad_con (o : Od) : Con Tryz.prog 59 [.ag (encO o)] (.ret (.sc (.bool (ordBad o)))) := by
  refine con_of (by_syntax_shape_c4 ?_)
  by_cases h2 : o.n < 1
  · simp (maxSteps:=1000000) (disch:=omega) only [sh_syntax_shape_c4,encO,go_sem, *]
    exact RC_ret rfl (by simp [ordBad, h2])
  · simp (maxSteps:=1000000) (disch:=omega) only [sh_syntax_shape_c4,encO,go_sem, *]
    exact RC_ret rfl (by simp [ordBad, h2])
end Go.Proofs.YtodoejfkjimeaaaGreatDoor

set_option linter.unusedSimpArgs false
set_option linter.unusedVariables false
set_option maxRecDepth 100000
namespace Go.Proofs.YtodoejfkjimeaaaGreatDoor
open Go Go.RowKit Am
attribute [-go_sem] guardP_if guardK_if guardD_if COND_bool
attribute [local go_sem low] guardP_if guardK_if guardD_if COND_bool
attribute [local go_sem] wrapI wrapB upd_is upd_not Nat.zero_add Nat.add_zero
attribute [local go_sem_proc] Nat.reduceAdd Nat.reduceSub Nat.reduceMul Nat.reduceLeDiff Nat.reduceEqDiff Int.reduceAdd Int.reduceSub Int.reduceMul Int.reduceNeg Int.reduceLT Int.reduceLE Int.reduceEq Int.reduceToNat reduceCtorEq reduceIte

def listsF (x : Sm) : List (List Ep) := x.rows ++ (x.sets.map (fun s => [s.ex]) ++ [x.items, x.on, x.where_, x.group])
abbrev rndR (n0 n : Nat) (σ : Hp) (J Q : Hp → Prop) : AEnd → Hp → Nat → Prop := fun r σ' _ => (∀ i, n0 ≤ i → i < n → σ' i = σ i) ∧ ((r = .ret (bb true) ∧ J σ') ∨ (r = .ret (bb false) ∧ Q σ'))
theorem flat_take {α : Type} {L : List (List α)} {i : Nat} {l : List α} (h : L[i]? = some l) : (L.take (i + 1)).flatten = (L.take i).flatten ++ l := by
  rw [List.take_add_one, h, List.flatten_append]; simp
theorem flat_split {α : Type} {L : List (List α)} {i : Nat} {l : List α} (h : L[i]? = some l) : L.flatten = (L.take i).flatten ++ (l ++ (L.drop (i + 1)).flatten) := by
  have hi := (List.getElem?_eq_some_iff.1 h).1
  have e : L = L.take i ++ (l :: L.drop (i + 1)) := by
    have h2 := (List.getElem?_eq_some_iff.1 h).2
    rw [← h2, ← List.drop_eq_getElem_cons hi, List.take_append_drop]
  conv => lhs; rw [e]
  simp
theorem take_split {α : Type} {l : List α} {j : Nat} {e : α} (h : l[j]? = some e) : l = l.take j ++ e :: l.drop (j + 1) := by
  obtain ⟨hi, h2⟩ := List.getElem?_eq_some_iff.1 h
  rw [← h2, ← List.drop_eq_getElem_cons hi, List.take_append_drop]
set_option maxHeartbeats 8000000 in
theorem exprs_con (x : Sm) (hb : SBd x) (y : Nat) (J : List Ep → Hp → Prop) (Q : Hp → Prop) (σ0 : Hp) (n0 : Nat) (hJ : ∀ pre σ σ', J pre σ → (∀ i, i < n0 → σ' i = σ i) → J pre σ')
    (hr : ∀ pre e post σ n, (listsF x).flatten = pre ++ e :: post → n0 ≤ n → J pre σ → YCon Tryz.prog y [.ag (encE e)] σ n (rndR n0 n σ (J (pre ++ [e])) Q)) (h0 : J [] σ0) :
    ConH Tryz.prog 25 [.ag (encSm x), .yl y] σ0 n0 (fun r σ' _ => r = .ret (.tp []) ∧ (J (listsF x).flatten σ' ∨ Q σ')) := by
  refine by_syntax_exprs ?_
  generalize hR : (fun (r' : AEnd) (σ' : Hp) (_ : Nat) => _) = R
  have HR := Lib.hid hR; clear hR
  have HJ := Lib.hid hJ; clear hJ
  have HY := Lib.hid hr; clear hr
  have H0 := Lib.hid h0; clear h0
  obtain ⟨kind, table, columns, key, index, rows, sets, items, join, on, wh, group, order, limit⟩ := x
  have HB := Lib.hid hb
  have hrl : rows.length ≤ 1048576 := hb.rows
  have hsl : sets.length ≤ 1048576 := hb.sets
  clear hb
  simp (maxSteps:=1000000) (disch:=omega) only [sh_syntax_exprs,encSm,go_sem, *]
  refine CALL_conW (clR_con rows hrl (n0 + 16)) (fun p hp => by cases hp) (fun n' hn' => ?_)
  have HN := Lib.hid hn'
  simp (maxSteps:=1000000) (disch:=omega) only [applyW_cons,applyW_nil,go_sem, *]
  intro _
  refine LOOP_listM sets (fun i s σ n => ∃ a b m, s = [a, b, .ow m 1 0 (rows.length + i), .sc (.int .i64 i)] ∧ n0 + 16 ≤ m ∧ m < n ∧ σ m = some (.c ⟨1, rows.map encRx ++ (sets.take i).map (fun s => encRx [s.ex]), true, true⟩) ∧
    σ n0 = some (.c ⟨14, [[.sc (.int .i64 kind), .s table, .tr (columns.map encC), .s key, .s index, .tr (rows.map encRx), .tr (sets.map encS), .tr (items.map encE), .s join, .tr (on.map encE), .tr (wh.map encE), .tr (group.map encE), .tr (order.map encO), .sc (.int .i64 limit)]], true, false⟩) ∧ J [] σ)
    (.refl ⟨_, _, n0 + 16, rfl, by omega, by omega, ?_, ?_, HJ.out _ _ _ H0.out (fun i hi => by simp (disch := omega) only [upd_not])⟩) ?_ ?_
  · rw [upd_is rfl]; simp
  · rw [upd_not (by omega), upd_is rfl]
  · rintro i s K s' σ n hx hi1 hi' hn1 ⟨a, b, m, rfl, hm, hmn, hσm, hσ0, hj⟩ hK
    have HK := Lib.hid hK; clear hK
    have HJJ := Lib.hid hj; clear hj
    have hl : (rows.map encRx ++ (sets.take i).map (fun s => encRx [s.ex])).length = rows.length + i := by simp; omega
    have hnx : rows.map encRx ++ (sets.take (i + 1)).map (fun s => encRx [s.ex]) = (rows.map encRx ++ (sets.take i).map (fun s => encRx [s.ex])) ++ [encRx [s.ex]] := by
      rw [List.take_add_one, hx, List.map_append, ← List.append_assoc]; rfl
    have HNX := Lib.hid hnx; clear hnx
    generalize hRW : rows.map encRx ++ (sets.take i).map (fun s => encRx [s.ex]) = RW at hσm hl
    have HRW := Lib.hid hRW; clear hRW
    have c1 : (rows.length + i + 1) * 24 ≤ 140737488355328 := by omega
    have c2 : ¬ m = n + 16 + 16 + 16 + 16 := by omega
    simp (maxSteps:=1000000) (disch:=omega) only [lb_syntax_exprs4,encS,encE_eq,encRx,go_sem, *]
    refine HK.out _ _ _ (.refl ?_)
    refine ⟨_, _, n + 16 + 16 + 16 + 16, rfl, by omega, ?_, ?_, ?_, ?_⟩
    · omega
    · rw [upd_is rfl, HNX.out, HRW.out]; simp only [encRx, encE_eq, List.map_cons, List.map_nil]
    · simp (disch := omega) only [upd_not]; exact hσ0
    · exact HJ.out _ _ _ HJJ.out (fun i hi => by simp (disch := omega) only [upd_not])
  · rintro K s' σ n hn1 ⟨a, b, m, rfl, hm, hmn, hσm, hσ0, hj⟩
    rw [List.take_length] at hσm
    have HJJ := Lib.hid hj; clear hj
    have hl : (rows.map encRx ++ sets.map (fun s => encRx [s.ex])).length = rows.length + sets.length := by simp
    generalize hRW : rows.map encRx ++ sets.map (fun s => encRx [s.ex]) = RW at hσm hl
    have HRW := Lib.hid hRW; clear hRW
    have c1 : (rows.length + sets.length + 4) * 24 ≤ 140737488355328 := by omega
    have c2 : ¬ m = n + 16 := by omega
    simp (maxSteps:=1000000) (disch:=omega) only [lb_syntax_exprs4,Int.lt_irrefl,go_sem, *]
    intro _
    have hLL : RW ++ [[AV.tr (items.map encE)], [AV.tr (on.map encE)], [AV.tr (wh.map encE)], [AV.tr (group.map encE)]] = (listsF ⟨kind, table, columns, key, index, rows, sets, items, join, on, wh, group, order, limit⟩).map encRx := by
      rw [← HRW.out]; simp [listsF, encRx, Function.comp_def]
    have hlen : (listsF ⟨kind, table, columns, key, index, rows, sets, items, join, on, wh, group, order, limit⟩).length = rows.length + sets.length + 4 := by simp [listsF]; omega
    rw [hLL]
    have hlb : ∀ l ∈ listsF ⟨kind, table, columns, key, index, rows, sets, items, join, on, wh, group, order, limit⟩, l.length ≤ 1048576 := by
      have hb := HB.out
      intro l hl
      simp only [listsF, List.mem_append, List.mem_map, List.mem_cons, List.not_mem_nil, or_false] at hl
      rcases hl with h | ⟨s, hs, rfl⟩ | rfl | rfl | rfl | rfl
      · exact (hb.row l h).len
      · simp
      · exact hb.items.len
      · exact hb.on.len
      · exact hb.where_.len
      · exact hb.group.len
    clear hLL HRW hl hσm hσ0
    generalize listsF ⟨kind, table, columns, key, index, rows, sets, items, join, on, wh, group, order, limit⟩ = LL at HR HY hlen hlb
    refine LOOP_listM LL (fun i s σ' n' => ∃ a b c d e f g h, s = [a, b, c, d, e, f, g, h, .sc (.int .i64 i)] ∧ n + 16 < n' ∧ σ' (n + 16) = some (.c ⟨1, LL.map encRx, true, true⟩) ∧ J (LL.take i).flatten σ')
      (.refl ⟨_, _, _, _, _, _, _, _, rfl, by omega, upd_is rfl, HJ.out _ _ _ HJJ.out (fun i hi => by simp (disch := omega) only [upd_not])⟩) ?_ ?_
    · rintro i l K s' σ2 n2 hx hi1 hi' hn2 ⟨a, b, c, d, e, f, g, h, rfl, hnn, hσm, hj⟩ hK
      have HK := Lib.hid hK; clear hK
      have HJ2 := Lib.hid hj; clear hj
      have HLB := Lib.hid hlb
      have hll : l.length ≤ 1048576 := hlb l (List.mem_of_getElem? hx)
      have hi2 : (i : Int) < ((rows.length + sets.length + 4 : Nat) : Int) := by rw [← hlen]; exact hi'
      have hi3 : i < rows.length + sets.length + 4 := by omega
      clear hlb
      simp (maxSteps:=1000000) (disch:=omega) only [lb_syntax_exprs3,encRx,go_sem, *]
      intro _
      refine LOOP_listM l (fun j s σ' n' => ∃ p q r, s = [p, q, r, .sc (.int .i64 j)] ∧ n + 16 < n' ∧ σ' (n + 16) = some (.c ⟨1, LL.map encRx, true, true⟩) ∧ J ((LL.take i).flatten ++ l.take j) σ')
        (.refl ⟨_, _, _, rfl, hnn, hσm, by simpa using HJ2.out⟩) ?_ ?_
      · rintro j z K2 s2 σ3 n3 hz hj1 hj' hn3 ⟨p, q, r, rfl, hnn3, hσ3, hj3⟩ hK2
        have HK2 := Lib.hid hK2; clear hK2
        have HJ3 := Lib.hid hj3; clear hj3
        have hfl : LL.flatten = ((LL.take i).flatten ++ l.take j) ++ z :: (l.drop (j + 1) ++ (LL.drop (i + 1)).flatten) := by
          rw [flat_split hx]
          conv => lhs; rw [take_split hz]
          simp
        have HFL := Lib.hid hfl; clear hfl
        have hnx : (LL.take i).flatten ++ l.take (j + 1) = ((LL.take i).flatten ++ l.take j) ++ [z] := by rw [List.take_add_one, hz, ← List.append_assoc]; rfl
        have HNX := Lib.hid hnx; clear hnx
        have HHM := Lib.hid hσ3
        simp (maxSteps:=1000000) (disch:=omega) only [lb_syntax_exprs2,encE_eq,go_sem, *]
        refine .y ⟨_, (by rw [← encE_eq]; exact HY.out _ z _ _ _ HFL.out (by omega) (HJ.out _ _ _ HJ3.out (fun i hi => by simp (disch := omega) only [upd_not]))), ?_⟩
        rintro r' σ4 n4 ⟨hk4, hor⟩ hn4
        rcases hor with ⟨rfl, hj4⟩ | ⟨rfl, hq4⟩
        · have HJ4 := Lib.hid hj4; clear hj4
          have HK4 := Lib.hid hk4; clear hk4
          simp (maxSteps:=1000000) (disch:=omega) only [go_sem, *]
          refine HK2.out _ _ _ (.refl ⟨_, _, _, rfl, ?_, ?_, ?_⟩)
          · omega
          · rw [HK4.out _ (by omega) (by omega)]
            simp (disch := omega) only [upd_not]; exact HHM.out
          · rw [HNX.out]; exact HJ4.out
        · have HQ4 := Lib.hid hq4; clear hq4
          clear hk4
          simp (maxSteps:=1000000) (disch:=omega) only [go_sem, *]
          rw [← HR.out]
          exact ⟨rfl, .inr HQ4.out⟩
      · rintro K2 s2 σ3 n3 hn3 ⟨p, q, r, rfl, hnn3, hσ3, hj3⟩
        rw [List.take_length, ← flat_take hx] at hj3
        have HJ3 := Lib.hid hj3; clear hj3
        have HHM := Lib.hid hσ3; clear hσ3
        simp (maxSteps:=1000000) (disch:=omega) only [lb_syntax_exprs2,Int.lt_irrefl,go_sem, *]
        exact HK.out _ _ _ (.refl ⟨_, _, _, _, _, _, _, _, rfl, by omega, HHM.out, HJ3.out⟩)
    · rintro K s' σ2 n2 hn2 ⟨a, b, c, d, e, f, g, h, rfl, hnn, hσm, hj⟩
      rw [List.take_length] at hj
      have HJ2 := Lib.hid hj; clear hj
      rw [hlen]
      simp (maxSteps:=1000000) (disch:=omega) only [lb_syntax_exprs3,Int.lt_irrefl,go_sem, *]
      rw [← HR.out]
      exact ⟨rfl, .inl HJ2.out⟩
end Go.Proofs.YtodoejfkjimeaaaGreatDoor

set_option linter.unusedSimpArgs false
set_option linter.unusedVariables false
set_option maxRecDepth 100000
namespace Go.Proofs.YtodoejfkjimeaaaGreatDoor
open Go Go.RowKit Am
attribute [-go_sem] guardP_if guardK_if guardD_if COND_bool
attribute [local go_sem low] guardP_if guardK_if guardD_if COND_bool
attribute [local go_sem] wrapI wrapB upd_is upd_not Nat.zero_add Nat.add_zero
attribute [local go_sem_proc] Nat.reduceAdd Nat.reduceSub Nat.reduceMul Nat.reduceLeDiff Nat.reduceEqDiff Int.reduceAdd Int.reduceSub Int.reduceMul Int.reduceNeg Int.reduceLT Int.reduceLE Int.reduceEq Int.reduceToNat reduceCtorEq reduceIte

theorem or_guard (b : Bool) (k c : Int) (K : AV → Prop) : (guardP (.sc (.bool b)) false (some (.sc (.int .i64 k))) fun v5 => guardP (.sc (.bool b)) false (semBin .eql v5 (.sc (.int .i64 c))) fun v6 => bindP (aPick (.sc (.bool b)) (.sc (.bool true)) v6) K) = K (.sc (.bool (b || decide (k = c)))) := by
  cases b
  · simp (maxSteps:=1000000) (disch:=omega) only [Bool.false_or,go_sem, *]
  · simp (maxSteps:=1000000) (disch:=omega) only [Bool.true_or,go_sem, *]
theorem or_guard2 (b : Bool) (k c : Int) (K : AV → Prop) : (guardP (.sc (.bool b)) false (some (.sc (.int .i64 k))) fun v5 => guardP (.sc (.bool b)) false (semBin .eql v5 (.sc (.int .i64 c))) fun v6 => guardP (.sc (.bool true)) true (aPick (.sc (.bool b)) (.sc (.bool true)) v6) K) = K (.sc (.bool (b || decide (k = c)))) := by
  cases b
  · simp (maxSteps:=1000000) (disch:=omega) only [Bool.false_or,go_sem, *]
  · simp (maxSteps:=1000000) (disch:=omega) only [Bool.true_or,go_sem, *]
attribute [local go_sem ↓ high] or_guard or_guard2
theorem CALL_bool {P : Program} {g : FuncId} {caps args cs : List AV} {b : Bool} {σ : Hp} {n : Nat} {K : AEnd → Hp → Nat → Prop} (h : Con P g cs (.ret (.sc (.bool b)))) (hb : brwL σ 6 (args ++ caps) = some (cs, []))
    (ht : b = true → K (.ret (.sc (.bool true))) σ n) (hf : b = false → K (.ret (.sc (.bool false))) σ n) : CALL P (.fn g caps) args σ n K := by
  refine CALL_con0 h hb ?_
  cases b
  · exact hf rfl
  · exact ht rfl
def shapeF (x : Sm) : Bool :=
  namedF x.table (decide (x.kind ≤ 7)) && namedF x.key (decide (x.kind = 1) || decide (x.kind = 2)) && namedF x.index (decide (x.kind = 2)) && (decide (x.join = []) || (decide (x.kind = 7) && nameL x.join))
   && countF x.columns.length 8 (decide (x.kind = 1)) 1 && countF x.rows.length 16 (decide (x.kind = 4)) 1 && countF x.sets.length 8 (decide (x.kind = 5)) 1 && countF x.items.length 16 (decide (x.kind = 7)) 1
   && countF x.on.length 1 (!decide (x.join = [])) 1 && countF x.where_.length 1 (decide (x.kind = 5) || decide (x.kind = 6) || decide (x.kind = 7)) 0 && countF x.group.length 1 (decide (x.kind = 7)) 0 && countF x.order.length 8 (decide (x.kind = 7)) 0
   && (if x.kind = 7 then decide (-1 ≤ x.limit) && decide (x.limit ≤ 2147483648) else decide (x.limit = 0))
   && !x.columns.any colBad && !x.rows.any rowBad && !x.sets.any setBad && !x.order.any ordBad
set_option maxHeartbeats 8000000 in
theorem shape_con (x : Sm) (hb : SBd x) : Con Tryz.prog 23 [.ag (encSm x)] (.ret (.sc (.bool (shapeF x)))) := by
  refine con_of (by_syntax_shape ?_)
  obtain ⟨kind, table, columns, key, index, rows, sets, items, join, on, wh, group, order, limit⟩ := x
  generalize hR : RC _ = R
  have HR := Lib.hid hR; clear hR
  have HB := Lib.hid hb; clear hb
  have b0 : ∀ σ, brwL σ 6 ([] : List AV) = some ([], []) := fun _ => rfl
  have b1 : ∀ σ, brwL σ 5 ([] : List AV) = some ([], []) := fun _ => rfl
  have NT := fun b => Lib.hid (named_con table b HB.out.table)
  have NK := fun b => Lib.hid (named_con key b HB.out.key)
  have NI := fun b => Lib.hid (named_con index b HB.out.index)
  have NJ := Lib.hid (name_con join (by have := HB.out.join; simp only at this; omega))
  have CC := Lib.hid (cfCol_con 53 [] colBad columns b0 b1 (fun c hc => colBad_con c (HB.out.col c hc)))
  have CR := Lib.hid (cfR_con 55 [] rowBad rows b0 b1 (fun l hl => rowBad_con l (HB.out.row l hl).len))
  have CS := Lib.hid (cfS_con 57 [] setBad sets b0 b1 (fun s hs => setBad_con s (HB.out.set s hs).1))
  have CO := Lib.hid (cfO_con 59 [] ordBad order b0 b1 (fun c _ => ordBad_con c))
  clear b0 b1
  by_cases h7 : kind = 7
  ·
    simp (maxSteps:=1000000) (disch:=omega) only [sh_syntax_shape,encSm,Bool.or_false,Bool.false_or,Bool.or_true,Bool.true_or,bin_geq,bin_leq,go_sem, *]
    refine CALL_bool (NT _).out rfl (fun h1 => ?_) (fun h1 => ?_)
    rotate_left
    · simp (maxSteps:=1000000) (disch:=omega) only [Bool.or_false,Bool.false_or,Bool.or_true,Bool.true_or,bin_geq,bin_leq,go_sem, *]
      rw [← HR.out]; exact RC_ret rfl (by simp_all [shapeF, -List.any_eq_true, -List.any_eq_false] <;> (intros; omega))
    simp (maxSteps:=1000000) (disch:=omega) only [Bool.or_false,Bool.false_or,Bool.or_true,Bool.true_or,bin_geq,bin_leq,go_sem, *]
    refine CALL_bool (NK _).out rfl (fun h2 => ?_) (fun h2 => ?_)
    rotate_left
    · simp (maxSteps:=1000000) (disch:=omega) only [Bool.or_false,Bool.false_or,Bool.or_true,Bool.true_or,bin_geq,bin_leq,go_sem, *]
      rw [← HR.out]; exact RC_ret rfl (by simp_all [shapeF, -List.any_eq_true, -List.any_eq_false] <;> (intros; omega))
    simp (maxSteps:=1000000) (disch:=omega) only [Bool.or_false,Bool.false_or,Bool.or_true,Bool.true_or,bin_geq,bin_leq,go_sem, *]
    refine CALL_bool (NI _).out rfl (fun h3 => ?_) (fun h3 => ?_)
    rotate_left
    · simp (maxSteps:=1000000) (disch:=omega) only [Bool.or_false,Bool.false_or,Bool.or_true,Bool.true_or,bin_geq,bin_leq,go_sem, *]
      rw [← HR.out]; exact RC_ret rfl (by simp_all [shapeF, -List.any_eq_true, -List.any_eq_false] <;> (intros; omega))
    simp (maxSteps:=1000000) (disch:=omega) only [Bool.or_false,Bool.false_or,Bool.or_true,Bool.true_or,bin_geq,bin_leq,go_sem, *]
    by_cases hj : join = []
    · simp (maxSteps:=1000000) (disch:=omega) only [Bool.or_false,Bool.false_or,Bool.or_true,Bool.true_or,bin_geq,bin_leq,go_sem, *]
      refine CALL_bool (count_con _ _ _ _) rfl (fun h4 => ?_) (fun h4 => ?_)
      rotate_left
      · simp (maxSteps:=1000000) (disch:=omega) only [Bool.or_false,Bool.false_or,Bool.or_true,Bool.true_or,bin_geq,bin_leq,go_sem, *]
        rw [← HR.out]; exact RC_ret rfl (by simp_all [shapeF, -List.any_eq_true, -List.any_eq_false] <;> (intros; omega))
      simp (maxSteps:=1000000) (disch:=omega) only [Bool.or_false,Bool.false_or,Bool.or_true,Bool.true_or,bin_geq,bin_leq,go_sem, *]
      refine CALL_bool (count_con _ _ _ _) rfl (fun h5 => ?_) (fun h5 => ?_)
      rotate_left
      · simp (maxSteps:=1000000) (disch:=omega) only [Bool.or_false,Bool.false_or,Bool.or_true,Bool.true_or,bin_geq,bin_leq,go_sem, *]
        rw [← HR.out]; exact RC_ret rfl (by simp_all [shapeF, -List.any_eq_true, -List.any_eq_false] <;> (intros; omega))
      simp (maxSteps:=1000000) (disch:=omega) only [Bool.or_false,Bool.false_or,Bool.or_true,Bool.true_or,bin_geq,bin_leq,go_sem, *]
      refine CALL_bool (count_con _ _ _ _) rfl (fun h6 => ?_) (fun h6 => ?_)
      rotate_left
      · simp (maxSteps:=1000000) (disch:=omega) only [Bool.or_false,Bool.false_or,Bool.or_true,Bool.true_or,bin_geq,bin_leq,go_sem, *]
        rw [← HR.out]; exact RC_ret rfl (by simp_all [shapeF, -List.any_eq_true, -List.any_eq_false] <;> (intros; omega))
      simp (maxSteps:=1000000) (disch:=omega) only [Bool.or_false,Bool.false_or,Bool.or_true,Bool.true_or,bin_geq,bin_leq,go_sem, *]
      refine CALL_bool (count_con _ _ _ _) rfl (fun h7 => ?_) (fun h7 => ?_)
      rotate_left
      · simp (maxSteps:=1000000) (disch:=omega) only [Bool.or_false,Bool.false_or,Bool.or_true,Bool.true_or,bin_geq,bin_leq,go_sem, *]
        rw [← HR.out]; exact RC_ret rfl (by simp_all [shapeF, -List.any_eq_true, -List.any_eq_false] <;> (intros; omega))
      simp (maxSteps:=1000000) (disch:=omega) only [Bool.or_false,Bool.false_or,Bool.or_true,Bool.true_or,bin_geq,bin_leq,go_sem, *]
      refine CALL_bool (count_con _ _ _ _) rfl (fun h8 => ?_) (fun h8 => ?_)
      rotate_left
      · simp (maxSteps:=1000000) (disch:=omega) only [Bool.or_false,Bool.false_or,Bool.or_true,Bool.true_or,bin_geq,bin_leq,go_sem, *]
        rw [← HR.out]; exact RC_ret rfl (by simp_all [shapeF, -List.any_eq_true, -List.any_eq_false] <;> (intros; omega))
      simp (maxSteps:=1000000) (disch:=omega) only [Bool.or_false,Bool.false_or,Bool.or_true,Bool.true_or,bin_geq,bin_leq,go_sem, *]
      refine CALL_bool (count_con _ _ _ _) rfl (fun h9 => ?_) (fun h9 => ?_)
      rotate_left
      · simp (maxSteps:=1000000) (disch:=omega) only [Bool.or_false,Bool.false_or,Bool.or_true,Bool.true_or,bin_geq,bin_leq,go_sem, *]
        rw [← HR.out]; exact RC_ret rfl (by simp_all [shapeF, -List.any_eq_true, -List.any_eq_false] <;> (intros; omega))
      simp (maxSteps:=1000000) (disch:=omega) only [Bool.or_false,Bool.false_or,Bool.or_true,Bool.true_or,bin_geq,bin_leq,go_sem, *]
      refine CALL_bool (count_con _ _ _ _) rfl (fun h10 => ?_) (fun h10 => ?_)
      rotate_left
      · simp (maxSteps:=1000000) (disch:=omega) only [Bool.or_false,Bool.false_or,Bool.or_true,Bool.true_or,bin_geq,bin_leq,go_sem, *]
        rw [← HR.out]; exact RC_ret rfl (by simp_all [shapeF, -List.any_eq_true, -List.any_eq_false] <;> (intros; omega))
      simp (maxSteps:=1000000) (disch:=omega) only [Bool.or_false,Bool.false_or,Bool.or_true,Bool.true_or,bin_geq,bin_leq,go_sem, *]
      refine CALL_bool (count_con _ _ _ _) rfl (fun h11 => ?_) (fun h11 => ?_)
      rotate_left
      · simp (maxSteps:=1000000) (disch:=omega) only [Bool.or_false,Bool.false_or,Bool.or_true,Bool.true_or,bin_geq,bin_leq,go_sem, *]
        rw [← HR.out]; exact RC_ret rfl (by simp_all [shapeF, -List.any_eq_true, -List.any_eq_false] <;> (intros; omega))
      simp (maxSteps:=1000000) (disch:=omega) only [Bool.or_false,Bool.false_or,Bool.or_true,Bool.true_or,bin_geq,bin_leq,go_sem, *]
      by_cases hl1 : -1 ≤ limit
      rotate_left
      · simp (maxSteps:=1000000) (disch:=omega) only [Bool.or_false,Bool.false_or,Bool.or_true,Bool.true_or,bin_geq,bin_leq,go_sem, *]
        rw [← HR.out]; exact RC_ret rfl (by simp_all [shapeF, -List.any_eq_true, -List.any_eq_false] <;> (intros; omega))
      by_cases hl2 : limit ≤ 2147483648
      rotate_left
      · simp (maxSteps:=1000000) (disch:=omega) only [Bool.or_false,Bool.false_or,Bool.or_true,Bool.true_or,bin_geq,bin_leq,go_sem, *]
        rw [← HR.out]; exact RC_ret rfl (by simp_all [shapeF, -List.any_eq_true, -List.any_eq_false] <;> (intros; omega))
      simp (maxSteps:=1000000) (disch:=omega) only [Bool.or_false,Bool.false_or,Bool.or_true,Bool.true_or,bin_geq,bin_leq,go_sem, *]
      refine CALL_bool CC.out rfl (fun h12 => ?_) (fun h12 => ?_)
      · simp (maxSteps:=1000000) (disch:=omega) only [Bool.or_false,Bool.false_or,Bool.or_true,Bool.true_or,bin_geq,bin_leq,go_sem, *]
        rw [← HR.out]; exact RC_ret rfl (by simp_all [shapeF, -List.any_eq_true, -List.any_eq_false] <;> (intros; omega))
      simp (maxSteps:=1000000) (disch:=omega) only [Bool.or_false,Bool.false_or,Bool.or_true,Bool.true_or,bin_geq,bin_leq,go_sem, *]
      refine CALL_bool CR.out rfl (fun h13 => ?_) (fun h13 => ?_)
      · simp (maxSteps:=1000000) (disch:=omega) only [Bool.or_false,Bool.false_or,Bool.or_true,Bool.true_or,bin_geq,bin_leq,go_sem, *]
        rw [← HR.out]; exact RC_ret rfl (by simp_all [shapeF, -List.any_eq_true, -List.any_eq_false] <;> (intros; omega))
      simp (maxSteps:=1000000) (disch:=omega) only [Bool.or_false,Bool.false_or,Bool.or_true,Bool.true_or,bin_geq,bin_leq,go_sem, *]
      refine CALL_bool CS.out rfl (fun h14 => ?_) (fun h14 => ?_)
      · simp (maxSteps:=1000000) (disch:=omega) only [Bool.or_false,Bool.false_or,Bool.or_true,Bool.true_or,bin_geq,bin_leq,go_sem, *]
        rw [← HR.out]; exact RC_ret rfl (by simp_all [shapeF, -List.any_eq_true, -List.any_eq_false] <;> (intros; omega))
      simp (maxSteps:=1000000) (disch:=omega) only [Bool.or_false,Bool.false_or,Bool.or_true,Bool.true_or,bin_geq,bin_leq,go_sem, *]
      refine CALL_bool CO.out rfl (fun h15 => ?_) (fun h15 => ?_)
      · simp (maxSteps:=1000000) (disch:=omega) only [Bool.or_false,Bool.false_or,Bool.or_true,Bool.true_or,bin_geq,bin_leq,go_sem, *]
        rw [← HR.out]; exact RC_ret rfl (by simp_all [shapeF, -List.any_eq_true, -List.any_eq_false] <;> (intros; omega))
      simp (maxSteps:=1000000) (disch:=omega) only [Bool.or_false,Bool.false_or,Bool.or_true,Bool.true_or,bin_geq,bin_leq,go_sem, *]
      rw [← HR.out]; exact RC_ret rfl (by simp_all [shapeF, -List.any_eq_true, -List.any_eq_false] <;> (intros; omega))
    · simp (maxSteps:=1000000) (disch:=omega) only [Bool.or_false,Bool.false_or,Bool.or_true,Bool.true_or,bin_geq,bin_leq,go_sem, *]
      refine CALL_bool NJ.out rfl (fun h16 => ?_) (fun h16 => ?_)
      rotate_left
      · simp (maxSteps:=1000000) (disch:=omega) only [Bool.or_false,Bool.false_or,Bool.or_true,Bool.true_or,bin_geq,bin_leq,go_sem, *]
        rw [← HR.out]; exact RC_ret rfl (by simp_all [shapeF, -List.any_eq_true, -List.any_eq_false] <;> (intros; omega))
      simp (maxSteps:=1000000) (disch:=omega) only [Bool.or_false,Bool.false_or,Bool.or_true,Bool.true_or,bin_geq,bin_leq,go_sem, *]
      refine CALL_bool (count_con _ _ _ _) rfl (fun h17 => ?_) (fun h17 => ?_)
      rotate_left
      · simp (maxSteps:=1000000) (disch:=omega) only [Bool.or_false,Bool.false_or,Bool.or_true,Bool.true_or,bin_geq,bin_leq,go_sem, *]
        rw [← HR.out]; exact RC_ret rfl (by simp_all [shapeF, -List.any_eq_true, -List.any_eq_false] <;> (intros; omega))
      simp (maxSteps:=1000000) (disch:=omega) only [Bool.or_false,Bool.false_or,Bool.or_true,Bool.true_or,bin_geq,bin_leq,go_sem, *]
      refine CALL_bool (count_con _ _ _ _) rfl (fun h18 => ?_) (fun h18 => ?_)
      rotate_left
      · simp (maxSteps:=1000000) (disch:=omega) only [Bool.or_false,Bool.false_or,Bool.or_true,Bool.true_or,bin_geq,bin_leq,go_sem, *]
        rw [← HR.out]; exact RC_ret rfl (by simp_all [shapeF, -List.any_eq_true, -List.any_eq_false] <;> (intros; omega))
      simp (maxSteps:=1000000) (disch:=omega) only [Bool.or_false,Bool.false_or,Bool.or_true,Bool.true_or,bin_geq,bin_leq,go_sem, *]
      refine CALL_bool (count_con _ _ _ _) rfl (fun h19 => ?_) (fun h19 => ?_)
      rotate_left
      · simp (maxSteps:=1000000) (disch:=omega) only [Bool.or_false,Bool.false_or,Bool.or_true,Bool.true_or,bin_geq,bin_leq,go_sem, *]
        rw [← HR.out]; exact RC_ret rfl (by simp_all [shapeF, -List.any_eq_true, -List.any_eq_false] <;> (intros; omega))
      simp (maxSteps:=1000000) (disch:=omega) only [Bool.or_false,Bool.false_or,Bool.or_true,Bool.true_or,bin_geq,bin_leq,go_sem, *]
      refine CALL_bool (count_con _ _ _ _) rfl (fun h20 => ?_) (fun h20 => ?_)
      rotate_left
      · simp (maxSteps:=1000000) (disch:=omega) only [Bool.or_false,Bool.false_or,Bool.or_true,Bool.true_or,bin_geq,bin_leq,go_sem, *]
        rw [← HR.out]; exact RC_ret rfl (by simp_all [shapeF, -List.any_eq_true, -List.any_eq_false] <;> (intros; omega))
      simp (maxSteps:=1000000) (disch:=omega) only [Bool.or_false,Bool.false_or,Bool.or_true,Bool.true_or,bin_geq,bin_leq,go_sem, *]
      refine CALL_bool (count_con _ _ _ _) rfl (fun h21 => ?_) (fun h21 => ?_)
      rotate_left
      · simp (maxSteps:=1000000) (disch:=omega) only [Bool.or_false,Bool.false_or,Bool.or_true,Bool.true_or,bin_geq,bin_leq,go_sem, *]
        rw [← HR.out]; exact RC_ret rfl (by simp_all [shapeF, -List.any_eq_true, -List.any_eq_false] <;> (intros; omega))
      simp (maxSteps:=1000000) (disch:=omega) only [Bool.or_false,Bool.false_or,Bool.or_true,Bool.true_or,bin_geq,bin_leq,go_sem, *]
      refine CALL_bool (count_con _ _ _ _) rfl (fun h22 => ?_) (fun h22 => ?_)
      rotate_left
      · simp (maxSteps:=1000000) (disch:=omega) only [Bool.or_false,Bool.false_or,Bool.or_true,Bool.true_or,bin_geq,bin_leq,go_sem, *]
        rw [← HR.out]; exact RC_ret rfl (by simp_all [shapeF, -List.any_eq_true, -List.any_eq_false] <;> (intros; omega))
      simp (maxSteps:=1000000) (disch:=omega) only [Bool.or_false,Bool.false_or,Bool.or_true,Bool.true_or,bin_geq,bin_leq,go_sem, *]
      refine CALL_bool (count_con _ _ _ _) rfl (fun h23 => ?_) (fun h23 => ?_)
      rotate_left
      · simp (maxSteps:=1000000) (disch:=omega) only [Bool.or_false,Bool.false_or,Bool.or_true,Bool.true_or,bin_geq,bin_leq,go_sem, *]
        rw [← HR.out]; exact RC_ret rfl (by simp_all [shapeF, -List.any_eq_true, -List.any_eq_false] <;> (intros; omega))
      simp (maxSteps:=1000000) (disch:=omega) only [Bool.or_false,Bool.false_or,Bool.or_true,Bool.true_or,bin_geq,bin_leq,go_sem, *]
      refine CALL_bool (count_con _ _ _ _) rfl (fun h24 => ?_) (fun h24 => ?_)
      rotate_left
      · simp (maxSteps:=1000000) (disch:=omega) only [Bool.or_false,Bool.false_or,Bool.or_true,Bool.true_or,bin_geq,bin_leq,go_sem, *]
        rw [← HR.out]; exact RC_ret rfl (by simp_all [shapeF, -List.any_eq_true, -List.any_eq_false] <;> (intros; omega))
      simp (maxSteps:=1000000) (disch:=omega) only [Bool.or_false,Bool.false_or,Bool.or_true,Bool.true_or,bin_geq,bin_leq,go_sem, *]
      by_cases hl1 : -1 ≤ limit
      rotate_left
      · simp (maxSteps:=1000000) (disch:=omega) only [Bool.or_false,Bool.false_or,Bool.or_true,Bool.true_or,bin_geq,bin_leq,go_sem, *]
        rw [← HR.out]; exact RC_ret rfl (by simp_all [shapeF, -List.any_eq_true, -List.any_eq_false] <;> (intros; omega))
      by_cases hl2 : limit ≤ 2147483648
      rotate_left
      · simp (maxSteps:=1000000) (disch:=omega) only [Bool.or_false,Bool.false_or,Bool.or_true,Bool.true_or,bin_geq,bin_leq,go_sem, *]
        rw [← HR.out]; exact RC_ret rfl (by simp_all [shapeF, -List.any_eq_true, -List.any_eq_false] <;> (intros; omega))
      simp (maxSteps:=1000000) (disch:=omega) only [Bool.or_false,Bool.false_or,Bool.or_true,Bool.true_or,bin_geq,bin_leq,go_sem, *]
      refine CALL_bool CC.out rfl (fun h25 => ?_) (fun h25 => ?_)
      · simp (maxSteps:=1000000) (disch:=omega) only [Bool.or_false,Bool.false_or,Bool.or_true,Bool.true_or,bin_geq,bin_leq,go_sem, *]
        rw [← HR.out]; exact RC_ret rfl (by simp_all [shapeF, -List.any_eq_true, -List.any_eq_false] <;> (intros; omega))
      simp (maxSteps:=1000000) (disch:=omega) only [Bool.or_false,Bool.false_or,Bool.or_true,Bool.true_or,bin_geq,bin_leq,go_sem, *]
      refine CALL_bool CR.out rfl (fun h26 => ?_) (fun h26 => ?_)
      · simp (maxSteps:=1000000) (disch:=omega) only [Bool.or_false,Bool.false_or,Bool.or_true,Bool.true_or,bin_geq,bin_leq,go_sem, *]
        rw [← HR.out]; exact RC_ret rfl (by simp_all [shapeF, -List.any_eq_true, -List.any_eq_false] <;> (intros; omega))
      simp (maxSteps:=1000000) (disch:=omega) only [Bool.or_false,Bool.false_or,Bool.or_true,Bool.true_or,bin_geq,bin_leq,go_sem, *]
      refine CALL_bool CS.out rfl (fun h27 => ?_) (fun h27 => ?_)
      · simp (maxSteps:=1000000) (disch:=omega) only [Bool.or_false,Bool.false_or,Bool.or_true,Bool.true_or,bin_geq,bin_leq,go_sem, *]
        rw [← HR.out]; exact RC_ret rfl (by simp_all [shapeF, -List.any_eq_true, -List.any_eq_false] <;> (intros; omega))
      simp (maxSteps:=1000000) (disch:=omega) only [Bool.or_false,Bool.false_or,Bool.or_true,Bool.true_or,bin_geq,bin_leq,go_sem, *]
      refine CALL_bool CO.out rfl (fun h28 => ?_) (fun h28 => ?_)
      · simp (maxSteps:=1000000) (disch:=omega) only [Bool.or_false,Bool.false_or,Bool.or_true,Bool.true_or,bin_geq,bin_leq,go_sem, *]
        rw [← HR.out]; exact RC_ret rfl (by simp_all [shapeF, -List.any_eq_true, -List.any_eq_false] <;> (intros; omega))
      simp (maxSteps:=1000000) (disch:=omega) only [Bool.or_false,Bool.false_or,Bool.or_true,Bool.true_or,bin_geq,bin_leq,go_sem, *]
      rw [← HR.out]; exact RC_ret rfl (by simp_all [shapeF, -List.any_eq_true, -List.any_eq_false] <;> (intros; omega))
  ·
    simp (maxSteps:=1000000) (disch:=omega) only [sh_syntax_shape,encSm,Bool.or_false,Bool.false_or,Bool.or_true,Bool.true_or,bin_geq,bin_leq,go_sem, *]
    refine CALL_bool (NT _).out rfl (fun h29 => ?_) (fun h29 => ?_)
    rotate_left
    · simp (maxSteps:=1000000) (disch:=omega) only [Bool.or_false,Bool.false_or,Bool.or_true,Bool.true_or,bin_geq,bin_leq,go_sem, *]
      rw [← HR.out]; exact RC_ret rfl (by simp_all [shapeF, -List.any_eq_true, -List.any_eq_false] <;> (intros; omega))
    simp (maxSteps:=1000000) (disch:=omega) only [Bool.or_false,Bool.false_or,Bool.or_true,Bool.true_or,bin_geq,bin_leq,go_sem, *]
    refine CALL_bool (NK _).out rfl (fun h30 => ?_) (fun h30 => ?_)
    rotate_left
    · simp (maxSteps:=1000000) (disch:=omega) only [Bool.or_false,Bool.false_or,Bool.or_true,Bool.true_or,bin_geq,bin_leq,go_sem, *]
      rw [← HR.out]; exact RC_ret rfl (by simp_all [shapeF, -List.any_eq_true, -List.any_eq_false] <;> (intros; omega))
    simp (maxSteps:=1000000) (disch:=omega) only [Bool.or_false,Bool.false_or,Bool.or_true,Bool.true_or,bin_geq,bin_leq,go_sem, *]
    refine CALL_bool (NI _).out rfl (fun h31 => ?_) (fun h31 => ?_)
    rotate_left
    · simp (maxSteps:=1000000) (disch:=omega) only [Bool.or_false,Bool.false_or,Bool.or_true,Bool.true_or,bin_geq,bin_leq,go_sem, *]
      rw [← HR.out]; exact RC_ret rfl (by simp_all [shapeF, -List.any_eq_true, -List.any_eq_false] <;> (intros; omega))
    simp (maxSteps:=1000000) (disch:=omega) only [Bool.or_false,Bool.false_or,Bool.or_true,Bool.true_or,bin_geq,bin_leq,go_sem, *]
    by_cases hj : join = []
    rotate_left
    · simp (maxSteps:=1000000) (disch:=omega) only [Bool.or_false,Bool.false_or,Bool.or_true,Bool.true_or,bin_geq,bin_leq,go_sem, *]
      rw [← HR.out]; exact RC_ret rfl (by simp_all [shapeF, -List.any_eq_true, -List.any_eq_false] <;> (intros; omega))
    simp (maxSteps:=1000000) (disch:=omega) only [Bool.or_false,Bool.false_or,Bool.or_true,Bool.true_or,bin_geq,bin_leq,go_sem, *]
    refine CALL_bool (count_con _ _ _ _) rfl (fun h32 => ?_) (fun h32 => ?_)
    rotate_left
    · simp (maxSteps:=1000000) (disch:=omega) only [Bool.or_false,Bool.false_or,Bool.or_true,Bool.true_or,bin_geq,bin_leq,go_sem, *]
      rw [← HR.out]; exact RC_ret rfl (by simp_all [shapeF, -List.any_eq_true, -List.any_eq_false] <;> (intros; omega))
    simp (maxSteps:=1000000) (disch:=omega) only [Bool.or_false,Bool.false_or,Bool.or_true,Bool.true_or,bin_geq,bin_leq,go_sem, *]
    refine CALL_bool (count_con _ _ _ _) rfl (fun h33 => ?_) (fun h33 => ?_)
    rotate_left
    · simp (maxSteps:=1000000) (disch:=omega) only [Bool.or_false,Bool.false_or,Bool.or_true,Bool.true_or,bin_geq,bin_leq,go_sem, *]
      rw [← HR.out]; exact RC_ret rfl (by simp_all [shapeF, -List.any_eq_true, -List.any_eq_false] <;> (intros; omega))
    simp (maxSteps:=1000000) (disch:=omega) only [Bool.or_false,Bool.false_or,Bool.or_true,Bool.true_or,bin_geq,bin_leq,go_sem, *]
    refine CALL_bool (count_con _ _ _ _) rfl (fun h34 => ?_) (fun h34 => ?_)
    rotate_left
    · simp (maxSteps:=1000000) (disch:=omega) only [Bool.or_false,Bool.false_or,Bool.or_true,Bool.true_or,bin_geq,bin_leq,go_sem, *]
      rw [← HR.out]; exact RC_ret rfl (by simp_all [shapeF, -List.any_eq_true, -List.any_eq_false] <;> (intros; omega))
    simp (maxSteps:=1000000) (disch:=omega) only [Bool.or_false,Bool.false_or,Bool.or_true,Bool.true_or,bin_geq,bin_leq,go_sem, *]
    refine CALL_bool (count_con _ _ _ _) rfl (fun h35 => ?_) (fun h35 => ?_)
    rotate_left
    · simp (maxSteps:=1000000) (disch:=omega) only [Bool.or_false,Bool.false_or,Bool.or_true,Bool.true_or,bin_geq,bin_leq,go_sem, *]
      rw [← HR.out]; exact RC_ret rfl (by simp_all [shapeF, -List.any_eq_true, -List.any_eq_false] <;> (intros; omega))
    simp (maxSteps:=1000000) (disch:=omega) only [Bool.or_false,Bool.false_or,Bool.or_true,Bool.true_or,bin_geq,bin_leq,go_sem, *]
    refine CALL_bool (count_con _ _ _ _) rfl (fun h36 => ?_) (fun h36 => ?_)
    rotate_left
    · simp (maxSteps:=1000000) (disch:=omega) only [Bool.or_false,Bool.false_or,Bool.or_true,Bool.true_or,bin_geq,bin_leq,go_sem, *]
      rw [← HR.out]; exact RC_ret rfl (by simp_all [shapeF, -List.any_eq_true, -List.any_eq_false] <;> (intros; omega))
    simp (maxSteps:=1000000) (disch:=omega) only [Bool.or_false,Bool.false_or,Bool.or_true,Bool.true_or,bin_geq,bin_leq,go_sem, *]
    refine CALL_bool (count_con _ _ _ _) rfl (fun h37 => ?_) (fun h37 => ?_)
    rotate_left
    · simp (maxSteps:=1000000) (disch:=omega) only [Bool.or_false,Bool.false_or,Bool.or_true,Bool.true_or,bin_geq,bin_leq,go_sem, *]
      rw [← HR.out]; exact RC_ret rfl (by simp_all [shapeF, -List.any_eq_true, -List.any_eq_false] <;> (intros; omega))
    simp (maxSteps:=1000000) (disch:=omega) only [Bool.or_false,Bool.false_or,Bool.or_true,Bool.true_or,bin_geq,bin_leq,go_sem, *]
    refine CALL_bool (count_con _ _ _ _) rfl (fun h38 => ?_) (fun h38 => ?_)
    rotate_left
    · simp (maxSteps:=1000000) (disch:=omega) only [Bool.or_false,Bool.false_or,Bool.or_true,Bool.true_or,bin_geq,bin_leq,go_sem, *]
      rw [← HR.out]; exact RC_ret rfl (by simp_all [shapeF, -List.any_eq_true, -List.any_eq_false] <;> (intros; omega))
    simp (maxSteps:=1000000) (disch:=omega) only [Bool.or_false,Bool.false_or,Bool.or_true,Bool.true_or,bin_geq,bin_leq,go_sem, *]
    refine CALL_bool (count_con _ _ _ _) rfl (fun h39 => ?_) (fun h39 => ?_)
    rotate_left
    · simp (maxSteps:=1000000) (disch:=omega) only [Bool.or_false,Bool.false_or,Bool.or_true,Bool.true_or,bin_geq,bin_leq,go_sem, *]
      rw [← HR.out]; exact RC_ret rfl (by simp_all [shapeF, -List.any_eq_true, -List.any_eq_false] <;> (intros; omega))
    simp (maxSteps:=1000000) (disch:=omega) only [Bool.or_false,Bool.false_or,Bool.or_true,Bool.true_or,bin_geq,bin_leq,go_sem, *]
    by_cases hl1 : limit = 0
    rotate_left
    · simp (maxSteps:=1000000) (disch:=omega) only [Bool.or_false,Bool.false_or,Bool.or_true,Bool.true_or,bin_geq,bin_leq,go_sem, *]
      rw [← HR.out]; exact RC_ret rfl (by simp_all [shapeF, -List.any_eq_true, -List.any_eq_false] <;> (intros; omega))
    simp (maxSteps:=1000000) (disch:=omega) only [Bool.or_false,Bool.false_or,Bool.or_true,Bool.true_or,bin_geq,bin_leq,go_sem, *]
    refine CALL_bool CC.out rfl (fun h40 => ?_) (fun h40 => ?_)
    · simp (maxSteps:=1000000) (disch:=omega) only [Bool.or_false,Bool.false_or,Bool.or_true,Bool.true_or,bin_geq,bin_leq,go_sem, *]
      rw [← HR.out]; exact RC_ret rfl (by simp_all [shapeF, -List.any_eq_true, -List.any_eq_false] <;> (intros; omega))
    simp (maxSteps:=1000000) (disch:=omega) only [Bool.or_false,Bool.false_or,Bool.or_true,Bool.true_or,bin_geq,bin_leq,go_sem, *]
    refine CALL_bool CR.out rfl (fun h41 => ?_) (fun h41 => ?_)
    · simp (maxSteps:=1000000) (disch:=omega) only [Bool.or_false,Bool.false_or,Bool.or_true,Bool.true_or,bin_geq,bin_leq,go_sem, *]
      rw [← HR.out]; exact RC_ret rfl (by simp_all [shapeF, -List.any_eq_true, -List.any_eq_false] <;> (intros; omega))
    simp (maxSteps:=1000000) (disch:=omega) only [Bool.or_false,Bool.false_or,Bool.or_true,Bool.true_or,bin_geq,bin_leq,go_sem, *]
    refine CALL_bool CS.out rfl (fun h42 => ?_) (fun h42 => ?_)
    · simp (maxSteps:=1000000) (disch:=omega) only [Bool.or_false,Bool.false_or,Bool.or_true,Bool.true_or,bin_geq,bin_leq,go_sem, *]
      rw [← HR.out]; exact RC_ret rfl (by simp_all [shapeF, -List.any_eq_true, -List.any_eq_false] <;> (intros; omega))
    simp (maxSteps:=1000000) (disch:=omega) only [Bool.or_false,Bool.false_or,Bool.or_true,Bool.true_or,bin_geq,bin_leq,go_sem, *]
    refine CALL_bool CO.out rfl (fun h43 => ?_) (fun h43 => ?_)
    · simp (maxSteps:=1000000) (disch:=omega) only [Bool.or_false,Bool.false_or,Bool.or_true,Bool.true_or,bin_geq,bin_leq,go_sem, *]
      rw [← HR.out]; exact RC_ret rfl (by simp_all [shapeF, -List.any_eq_true, -List.any_eq_false] <;> (intros; omega))
    simp (maxSteps:=1000000) (disch:=omega) only [Bool.or_false,Bool.false_or,Bool.or_true,Bool.true_or,bin_geq,bin_leq,go_sem, *]
    rw [← HR.out]; exact RC_ret rfl (by simp_all [shapeF, -List.any_eq_true, -List.any_eq_false] <;> (intros; omega))
end Go.Proofs.YtodoejfkjimeaaaGreatDoor
