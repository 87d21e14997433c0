/- Packed by a program of this repo: Qb Uo Qd Qe. -/
import Derived.Test.YtodoejfkjimeaaaDoorKOQa
import Derived.Test.YtodoejfkjimeaaaDoorKOUe
import Derived.Test.YtodoejfkjimeaaaDoorKOMs
set_option linter.unusedSimpArgs false
set_option linter.unusedVariables false
set_option maxRecDepth 100000
namespace Go.Proofs.YtodoejfkjimeaaaDoor
open Go Go.RowKit Am
attribute [-go_sem] guardP_if guardK_if guardD_if COND_bool
attribute [local go_sem low] guardP_if guardK_if guardD_if COND_bool

structure LBd (l : List Ep) : Prop where
  len : l.length ≤ 1048576
  bd : ∀ e ∈ l, Bd e
structure SBd (x : Sm) : Prop where
  table : x.table.length ≤ 1048576
  key : x.key.length ≤ 1048576
  index : x.index.length ≤ 1048576
  join : x.join.length ≤ 1048576
  cols : x.columns.length ≤ 1048576
  col : ∀ c ∈ x.columns, c.name.length ≤ 1048576
  rows : x.rows.length ≤ 1048576
  row : ∀ l ∈ x.rows, LBd l
  sets : x.sets.length ≤ 1048576
  set : ∀ s ∈ x.sets, s.name.length ≤ 1048576 ∧ Bd s.ex
  items : LBd x.items
  on : LBd x.on
  where_ : LBd x.where_
  group : LBd x.group
  order : x.order.length ≤ 1048576
def namedF (s : Tx) (asked : Bool) : Bool := if asked then nameL s else decide (s = [])
def countF (n most : Int) (asked : Bool) (least : Int) : Bool := if asked then decide (least ≤ n) && decide (n ≤ most) else decide (n = 0)
def colBad (c : Cl) : Bool := !nameL c.name || decide (c.kind < 1) || decide (3 < c.kind)
def rowBad (l : List Ep) : Bool := decide ((l.length : Int) < 1) || decide (8 < (l.length : Int))
def setBad (s : Se) : Bool := !nameL s.name
def ordBad (o : Od) : Bool := decide (o.n < 1) || decide (16 < o.n)
theorem named_con (s : Tx) (asked : Bool) (hs : s.length ≤ 1048576) : Con Tryd.prog 89 [.s s, .sc (.bool asked)] (.ret (.sc (.bool (namedF s asked)))) := by
  refine con_of (by_syntax_named ?_)
  cases asked
  · simp (maxSteps:=1000000) (disch:=omega) only [sh_syntax_named,go_sem,wrapI,wrapB,upd_is,upd_not,Nat.reduceAdd,Nat.reduceSub,Nat.reduceMul,Nat.reduceLeDiff,Nat.reduceEqDiff,Int.reduceAdd,Int.reduceSub,Int.reduceMul,Int.reduceNeg,Int.reduceLT,Int.reduceLE,Int.reduceEq,Int.reduceToNat,reduceCtorEq,reduceIte,Nat.zero_add,Nat.add_zero, *]
    exact RC_ret rfl rfl
  · simp (maxSteps:=1000000) (disch:=omega) only [sh_syntax_named,go_sem,wrapI,wrapB,upd_is,upd_not,Nat.reduceAdd,Nat.reduceSub,Nat.reduceMul,Nat.reduceLeDiff,Nat.reduceEqDiff,Int.reduceAdd,Int.reduceSub,Int.reduceMul,Int.reduceNeg,Int.reduceLT,Int.reduceLE,Int.reduceEq,Int.reduceToNat,reduceCtorEq,reduceIte,Nat.zero_add,Nat.add_zero, *]
    refine CALL_con0 (name_con s (by omega)) rfl ?_
    simp (maxSteps:=1000000) (disch:=omega) only [go_sem,wrapI,wrapB,upd_is,upd_not,Nat.reduceAdd,Nat.reduceSub,Nat.reduceMul,Nat.reduceLeDiff,Nat.reduceEqDiff,Int.reduceAdd,Int.reduceSub,Int.reduceMul,Int.reduceNeg,Int.reduceLT,Int.reduceLE,Int.reduceEq,Int.reduceToNat,reduceCtorEq,reduceIte,Nat.zero_add,Nat.add_zero, *]
    exact RC_ret rfl rfl
theorem count_con (n most least : Int) (asked : Bool) : Con Tryd.prog 90 [.sc (.int .i64 n), .sc (.int .i64 most), .sc (.bool asked), .sc (.int .i64 least)] (.ret (.sc (.bool (countF n most asked least)))) := by
  refine con_of (by_syntax_count ?_)
  cases asked
  · simp (maxSteps:=1000000) (disch:=omega) only [sh_syntax_count,go_sem,wrapI,wrapB,upd_is,upd_not,Nat.reduceAdd,Nat.reduceSub,Nat.reduceMul,Nat.reduceLeDiff,Nat.reduceEqDiff,Int.reduceAdd,Int.reduceSub,Int.reduceMul,Int.reduceNeg,Int.reduceLT,Int.reduceLE,Int.reduceEq,Int.reduceToNat,reduceCtorEq,reduceIte,Nat.zero_add,Nat.add_zero, *]
    exact RC_ret rfl rfl
  · by_cases h : least ≤ n
    · simp (maxSteps:=1000000) (disch:=omega) only [sh_syntax_count,go_sem,wrapI,wrapB,upd_is,upd_not,Nat.reduceAdd,Nat.reduceSub,Nat.reduceMul,Nat.reduceLeDiff,Nat.reduceEqDiff,Int.reduceAdd,Int.reduceSub,Int.reduceMul,Int.reduceNeg,Int.reduceLT,Int.reduceLE,Int.reduceEq,Int.reduceToNat,reduceCtorEq,reduceIte,Nat.zero_add,Nat.add_zero, *]
      exact RC_ret rfl (by simp [countF, h])
    · simp (maxSteps:=1000000) (disch:=omega) only [sh_syntax_count,go_sem,wrapI,wrapB,upd_is,upd_not,Nat.reduceAdd,Nat.reduceSub,Nat.reduceMul,Nat.reduceLeDiff,Nat.reduceEqDiff,Int.reduceAdd,Int.reduceSub,Int.reduceMul,Int.reduceNeg,Int.reduceLT,Int.reduceLE,Int.reduceEq,Int.reduceToNat,reduceCtorEq,reduceIte,Nat.zero_add,Nat.add_zero, *]
      exact RC_ret rfl (by simp [countF, h])
theorem colBad_con (c : Cl) (hc : c.name.length ≤ 1048576) : Con Tryd.prog 92 [.ag (encC c)] (.ret (.sc (.bool (colBad c)))) := by
  refine con_of (by_syntax_shape_c1 ?_)
  have HN := Lib.hid (name_con c.name (by omega)); clear hc
  simp (maxSteps:=1000000) (disch:=omega) only [sh_syntax_shape_c1,encC,go_sem,wrapI,wrapB,upd_is,upd_not,Nat.reduceAdd,Nat.reduceSub,Nat.reduceMul,Nat.reduceLeDiff,Nat.reduceEqDiff,Int.reduceAdd,Int.reduceSub,Int.reduceMul,Int.reduceNeg,Int.reduceLT,Int.reduceLE,Int.reduceEq,Int.reduceToNat,reduceCtorEq,reduceIte,Nat.zero_add,Nat.add_zero, *]
  refine CALL_con0 HN.out rfl ?_
  cases h1 : nameL c.name
  · simp (maxSteps:=1000000) (disch:=omega) only [go_sem,wrapI,wrapB,upd_is,upd_not,Nat.reduceAdd,Nat.reduceSub,Nat.reduceMul,Nat.reduceLeDiff,Nat.reduceEqDiff,Int.reduceAdd,Int.reduceSub,Int.reduceMul,Int.reduceNeg,Int.reduceLT,Int.reduceLE,Int.reduceEq,Int.reduceToNat,reduceCtorEq,reduceIte,Nat.zero_add,Nat.add_zero, *]
    exact RC_ret rfl (by simp [colBad, h1])
  · by_cases h2 : c.kind < 1
    · simp (maxSteps:=1000000) (disch:=omega) only [go_sem,wrapI,wrapB,upd_is,upd_not,Nat.reduceAdd,Nat.reduceSub,Nat.reduceMul,Nat.reduceLeDiff,Nat.reduceEqDiff,Int.reduceAdd,Int.reduceSub,Int.reduceMul,Int.reduceNeg,Int.reduceLT,Int.reduceLE,Int.reduceEq,Int.reduceToNat,reduceCtorEq,reduceIte,Nat.zero_add,Nat.add_zero, *]
      exact RC_ret rfl (by simp [colBad, h1, h2])
    · simp (maxSteps:=1000000) (disch:=omega) only [go_sem,wrapI,wrapB,upd_is,upd_not,Nat.reduceAdd,Nat.reduceSub,Nat.reduceMul,Nat.reduceLeDiff,Nat.reduceEqDiff,Int.reduceAdd,Int.reduceSub,Int.reduceMul,Int.reduceNeg,Int.reduceLT,Int.reduceLE,Int.reduceEq,Int.reduceToNat,reduceCtorEq,reduceIte,Nat.zero_add,Nat.add_zero, *]
      exact RC_ret rfl (by simp [colBad, h1, h2])
theorem rowBad_con (l : List Ep) (hl : l.length ≤ 1048576) : Con Tryd.prog 94 [.tr (l.map encE)] (.ret (.sc (.bool (rowBad l)))) := by
  refine con_of (by_syntax_shape_c2 ?_)
  by_cases h2 : (l.length : Int) < 1
  · simp (maxSteps:=1000000) (disch:=omega) only [sh_syntax_shape_c2,go_sem,wrapI,wrapB,upd_is,upd_not,Nat.reduceAdd,Nat.reduceSub,Nat.reduceMul,Nat.reduceLeDiff,Nat.reduceEqDiff,Int.reduceAdd,Int.reduceSub,Int.reduceMul,Int.reduceNeg,Int.reduceLT,Int.reduceLE,Int.reduceEq,Int.reduceToNat,reduceCtorEq,reduceIte,Nat.zero_add,Nat.add_zero, *]
    intro _
    exact RC_ret rfl (by simp [rowBad, h2])
  · simp (maxSteps:=1000000) (disch:=omega) only [sh_syntax_shape_c2,go_sem,wrapI,wrapB,upd_is,upd_not,Nat.reduceAdd,Nat.reduceSub,Nat.reduceMul,Nat.reduceLeDiff,Nat.reduceEqDiff,Int.reduceAdd,Int.reduceSub,Int.reduceMul,Int.reduceNeg,Int.reduceLT,Int.reduceLE,Int.reduceEq,Int.reduceToNat,reduceCtorEq,reduceIte,Nat.zero_add,Nat.add_zero, *]
    intro _
    exact RC_ret rfl (by simp [rowBad, h2])
theorem setBad_con (s : Se) (hs : s.name.length ≤ 1048576) : Con Tryd.prog 96 [.ag (encS s)] (.ret (.sc (.bool (setBad s)))) := by
  refine con_of (by_syntax_shape_c3 ?_)
  have HN := Lib.hid (name_con s.name (by omega)); clear hs
  simp (maxSteps:=1000000) (disch:=omega) only [sh_syntax_shape_c3,encS,encE_eq,go_sem,wrapI,wrapB,upd_is,upd_not,Nat.reduceAdd,Nat.reduceSub,Nat.reduceMul,Nat.reduceLeDiff,Nat.reduceEqDiff,Int.reduceAdd,Int.reduceSub,Int.reduceMul,Int.reduceNeg,Int.reduceLT,Int.reduceLE,Int.reduceEq,Int.reduceToNat,reduceCtorEq,reduceIte,Nat.zero_add,Nat.add_zero, *]
  refine CALL_con0 HN.out rfl ?_
  simp (maxSteps:=1000000) (disch:=omega) only [go_sem,wrapI,wrapB,upd_is,upd_not,Nat.reduceAdd,Nat.reduceSub,Nat.reduceMul,Nat.reduceLeDiff,Nat.reduceEqDiff,Int.reduceAdd,Int.reduceSub,Int.reduceMul,Int.reduceNeg,Int.reduceLT,Int.reduceLE,Int.reduceEq,Int.reduceToNat,reduceCtorEq,reduceIte,Nat.zero_add,Nat.add_zero, *]
  exact RC_ret rfl rfl
theorem ordBad_con (o : Od) : Con Tryd.prog 98 [.ag (encO o)] (.ret (.sc (.bool (ordBad o)))) := by
  refine con_of (by_syntax_shape_c4 ?_)
  by_cases h2 : o.n < 1
  · simp (maxSteps:=1000000) (disch:=omega) only [sh_syntax_shape_c4,encO,go_sem,wrapI,wrapB,upd_is,upd_not,Nat.reduceAdd,Nat.reduceSub,Nat.reduceMul,Nat.reduceLeDiff,Nat.reduceEqDiff,Int.reduceAdd,Int.reduceSub,Int.reduceMul,Int.reduceNeg,Int.reduceLT,Int.reduceLE,Int.reduceEq,Int.reduceToNat,reduceCtorEq,reduceIte,Nat.zero_add,Nat.add_zero, *]
    exact RC_ret rfl (by simp [ordBad, h2])
  · simp (maxSteps:=1000000) (disch:=omega) only [sh_syntax_shape_c4,encO,go_sem,wrapI,wrapB,upd_is,upd_not,Nat.reduceAdd,Nat.reduceSub,Nat.reduceMul,Nat.reduceLeDiff,Nat.reduceEqDiff,Int.reduceAdd,Int.reduceSub,Int.reduceMul,Int.reduceNeg,Int.reduceLT,Int.reduceLE,Int.reduceEq,Int.reduceToNat,reduceCtorEq,reduceIte,Nat.zero_add,Nat.add_zero, *]
    exact RC_ret rfl (by simp [ordBad, h2])
end Go.Proofs.YtodoejfkjimeaaaDoor

set_option linter.unusedSimpArgs false
set_option linter.unusedVariables false
set_option maxRecDepth 100000
namespace Go.Proofs.YtodoejfkjimeaaaDoor
open Go Go.RowKit Am Go.ChangeShapes Go.WideShapes Go.ChangeAt
attribute [-go_sem] guardP_if guardK_if guardD_if COND_bool
attribute [local go_sem low] guardP_if guardK_if guardD_if COND_bool

instance : Inhabited Se := ⟨⟨[], .zero⟩⟩
instance : Inhabited Od := ⟨⟨0, false⟩⟩
theorem opens_Exprs (n : Nat) : Opens 24 1 encRx (fun l : List Ep => l.length ≤ 1048576 ∧ ∀ a ∈ l, BdRg a) n :=
  opens_slice Tryd.underlying24 cols_E (by omega) n (fun m _ => opens_Expr m)
structure SRg (x : Sm) : Prop where
  row : ∀ l ∈ x.rows, ∀ e ∈ l, Rg e
  set : ∀ s ∈ x.sets, Rg s.ex
  items : ∀ e ∈ x.items, Rg e
  on : ∀ e ∈ x.on, Rg e
  where_ : ∀ e ∈ x.where_, Rg e
  group : ∀ e ∈ x.group, Rg e
  order : ∀ o ∈ x.order, rng o.n
  limit : rng x.limit
theorem LBd.of {l : List Ep} (h : l.length ≤ 1048576 ∧ ∀ a ∈ l, BdRg a) : LBd l := ⟨h.1, fun e he => (h.2 e he).1⟩
theorem opens_Order (n : Nat) : Opens 75 2 encO (fun x : Od => rng x.n) n := by
  intro H enc W cs x h hb
  obtain ⟨xs, m, rfl, rfl, hl, hlen, hf⟩ := DataW.trod_struct Tryd.underlying75 h
  have hc : Tryd.prog.cellsOf 75 = 2 := by kernel_rfl
  rw [hc] at hl
  simp only [Rows.uptoBulk] at hb
  match cs, hl, xs, hlen, hf, hb with
  | [c0, c1], _, [y0, y1], _, hf, hb =>
    simp only [List.map_cons, List.map_nil, Rows.uptoBulkAll] at hb
    have z0 : Tryd.prog.cellsOf 3 = 1 := by kernel_rfl
    have f0 : DataW.trod enc Tryd.prog W 0 (fun _ => true) true m 3 [c0] = some y0 := by have this : DataW.trod enc Tryd.prog W 0 (fun _ => true) true m 3 (([c0, c1].drop 0).take (Tryd.prog.cellsOf 3)) = some y0 := hf 0 _ rfl; rw [z0] at this; exact this
    obtain ⟨a0, b0, _, _, r0⟩ := opens_int m enc W _ _ f0 (by omega)
    have z1 : Tryd.prog.cellsOf 4 = 1 := by kernel_rfl
    have f1 : DataW.trod enc Tryd.prog W 0 (fun _ => true) true m 4 [c1] = some y1 := by have this : DataW.trod enc Tryd.prog W 0 (fun _ => true) true m 4 (([c0, c1].drop 1).take (Tryd.prog.cellsOf 4)) = some y1 := hf 1 _ rfl; rw [z1] at this; exact this
    obtain ⟨a1, b1, _, _, r1⟩ := opens_bool m enc W _ _ f1 (by omega)
    refine ⟨⟨a0, a1⟩, b0, rfl, rfl, ?_⟩
    intro i u v h1 h2
    match i, h1, h2 with
    | 0, h1, h2 => exact r0 0 u v h1 h2
    | 1, h1, h2 => exact r1 0 u v h1 h2
    | i + 2, h1, h2 => cases h1
theorem opens_Set (n : Nat) : Opens 67 8 encS (fun x : Se => x.name.length ≤ 1048576 ∧ BdRg x.ex) n := by
  intro H enc W cs x h hb
  obtain ⟨xs, m, rfl, rfl, hl, hlen, hf⟩ := DataW.trod_struct Tryd.underlying67 h
  have hc : Tryd.prog.cellsOf 67 = 8 := by kernel_rfl
  rw [hc] at hl
  simp only [Rows.uptoBulk] at hb
  match cs, hl, xs, hlen, hf, hb with
  | [c0, c1, c2, c3, c4, c5, c6, c7], _, [y0, y1], _, hf, hb =>
    simp only [List.map_cons, List.map_nil, Rows.uptoBulkAll] at hb
    have z0 : Tryd.prog.cellsOf 9 = 1 := by kernel_rfl
    have f0 : DataW.trod enc Tryd.prog W 0 (fun _ => true) true m 9 [c0] = some y0 := by have this : DataW.trod enc Tryd.prog W 0 (fun _ => true) true m 9 (([c0, c1, c2, c3, c4, c5, c6, c7].drop 0).take (Tryd.prog.cellsOf 9)) = some y0 := hf 0 _ rfl; rw [z0] at this; exact this
    obtain ⟨a0, b0, _, _, r0⟩ := opens_str m enc W _ _ f0 (by omega)
    have z1 : Tryd.prog.cellsOf 26 = 7 := by kernel_rfl
    have f1 : DataW.trod enc Tryd.prog W 0 (fun _ => true) true m 26 [c1, c2, c3, c4, c5, c6, c7] = some y1 := by have this : DataW.trod enc Tryd.prog W 0 (fun _ => true) true m 26 (([c0, c1, c2, c3, c4, c5, c6, c7].drop 1).take (Tryd.prog.cellsOf 26)) = some y1 := hf 1 _ rfl; rw [z1] at this; exact this
    obtain ⟨a1, b1, _, _, r1⟩ := opens_Expr m enc W _ _ f1 (by omega)
    refine ⟨⟨a0, a1⟩, ⟨b0, b1⟩, rfl, encS_len _, ?_⟩
    intro i u v h1 h2
    rw [encS] at h2
    match i, h1, h2 with
    | 0, h1, h2 => exact r0 0 u v h1 h2
    | 1, h1, h2 => exact r1 0 u v h1 h2
    | 2, h1, h2 => exact r1 1 u v h1 h2
    | 3, h1, h2 => exact r1 2 u v h1 h2
    | 4, h1, h2 => exact r1 3 u v h1 h2
    | 5, h1, h2 => exact r1 4 u v h1 h2
    | 6, h1, h2 => exact r1 5 u v h1 h2
    | 7, h1, h2 => exact r1 6 u v h1 h2
    | i + 8, h1, h2 => cases h1
theorem cols_S : Tryd.prog.cellsOf 67 = 8 := by kernel_rfl
theorem cols_O : Tryd.prog.cellsOf 75 = 2 := by kernel_rfl
theorem cols_Es : Tryd.prog.cellsOf 24 = 1 := by kernel_rfl
theorem opens_Stmt (n : Nat) : Opens 44 14 encSm (fun x : Sm => SBd x ∧ SRg x) n := by
  intro H enc W cs x h hb
  obtain ⟨xs, m, rfl, rfl, hl, hlen, hf⟩ := DataW.trod_struct Tryd.underlying44 h
  have hc : Tryd.prog.cellsOf 44 = 14 := by kernel_rfl
  rw [hc] at hl
  simp only [Rows.uptoBulk] at hb
  match cs, hl, xs, hlen, hf, hb with
  | [c0, c1, c2, c3, c4, c5, c6, c7, c8, c9, c10, c11, c12, c13], _, [y0, y1, y2, y3, y4, y5, y6, y7, y8, y9, y10, y11, y12, y13], _, hf, hb =>
    simp only [List.map_cons, List.map_nil, Rows.uptoBulkAll] at hb
    have z0 : Tryd.prog.cellsOf 3 = 1 := by kernel_rfl
    have f0 : DataW.trod enc Tryd.prog W 0 (fun _ => true) true m 3 [c0] = some y0 := by have this : DataW.trod enc Tryd.prog W 0 (fun _ => true) true m 3 (([c0, c1, c2, c3, c4, c5, c6, c7, c8, c9, c10, c11, c12, c13].drop 0).take (Tryd.prog.cellsOf 3)) = some y0 := hf 0 _ rfl; rw [z0] at this; exact this
    obtain ⟨a0, b0, _, _, r0⟩ := opens_int m enc W _ _ f0 (by omega)
    have z1 : Tryd.prog.cellsOf 9 = 1 := by kernel_rfl
    have f1 : DataW.trod enc Tryd.prog W 0 (fun _ => true) true m 9 [c1] = some y1 := by have this : DataW.trod enc Tryd.prog W 0 (fun _ => true) true m 9 (([c0, c1, c2, c3, c4, c5, c6, c7, c8, c9, c10, c11, c12, c13].drop 1).take (Tryd.prog.cellsOf 9)) = some y1 := hf 1 _ rfl; rw [z1] at this; exact this
    obtain ⟨a1, b1, _, _, r1⟩ := opens_str m enc W _ _ f1 (by omega)
    have z2 : Tryd.prog.cellsOf 39 = 1 := by kernel_rfl
    have f2 : DataW.trod enc Tryd.prog W 0 (fun _ => true) true m 39 [c2] = some y2 := by have this : DataW.trod enc Tryd.prog W 0 (fun _ => true) true m 39 (([c0, c1, c2, c3, c4, c5, c6, c7, c8, c9, c10, c11, c12, c13].drop 2).take (Tryd.prog.cellsOf 39)) = some y2 := hf 2 _ rfl; rw [z2] at this; exact this
    obtain ⟨a2, b2, _, _, r2⟩ := opens_slice Tryd.underlying39 cols_C (by omega) m (fun m _ => opens_Column m) enc W _ _ f2 (by omega)
    have z3 : Tryd.prog.cellsOf 9 = 1 := by kernel_rfl
    have f3 : DataW.trod enc Tryd.prog W 0 (fun _ => true) true m 9 [c3] = some y3 := by have this : DataW.trod enc Tryd.prog W 0 (fun _ => true) true m 9 (([c0, c1, c2, c3, c4, c5, c6, c7, c8, c9, c10, c11, c12, c13].drop 3).take (Tryd.prog.cellsOf 9)) = some y3 := hf 3 _ rfl; rw [z3] at this; exact this
    obtain ⟨a3, b3, _, _, r3⟩ := opens_str m enc W _ _ f3 (by omega)
    have z4 : Tryd.prog.cellsOf 9 = 1 := by kernel_rfl
    have f4 : DataW.trod enc Tryd.prog W 0 (fun _ => true) true m 9 [c4] = some y4 := by have this : DataW.trod enc Tryd.prog W 0 (fun _ => true) true m 9 (([c0, c1, c2, c3, c4, c5, c6, c7, c8, c9, c10, c11, c12, c13].drop 4).take (Tryd.prog.cellsOf 9)) = some y4 := hf 4 _ rfl; rw [z4] at this; exact this
    obtain ⟨a4, b4, _, _, r4⟩ := opens_str m enc W _ _ f4 (by omega)
    have z5 : Tryd.prog.cellsOf 40 = 1 := by kernel_rfl
    have f5 : DataW.trod enc Tryd.prog W 0 (fun _ => true) true m 40 [c5] = some y5 := by have this : DataW.trod enc Tryd.prog W 0 (fun _ => true) true m 40 (([c0, c1, c2, c3, c4, c5, c6, c7, c8, c9, c10, c11, c12, c13].drop 5).take (Tryd.prog.cellsOf 40)) = some y5 := hf 5 _ rfl; rw [z5] at this; exact this
    obtain ⟨a5, b5, _, _, r5⟩ := opens_slice Tryd.underlying40 cols_Es (by omega) m (fun m _ => opens_Exprs m) enc W _ _ f5 (by omega)
    have z6 : Tryd.prog.cellsOf 41 = 1 := by kernel_rfl
    have f6 : DataW.trod enc Tryd.prog W 0 (fun _ => true) true m 41 [c6] = some y6 := by have this : DataW.trod enc Tryd.prog W 0 (fun _ => true) true m 41 (([c0, c1, c2, c3, c4, c5, c6, c7, c8, c9, c10, c11, c12, c13].drop 6).take (Tryd.prog.cellsOf 41)) = some y6 := hf 6 _ rfl; rw [z6] at this; exact this
    obtain ⟨a6, b6, _, _, r6⟩ := opens_slice Tryd.underlying41 cols_S (by omega) m (fun m _ => opens_Set m) enc W _ _ f6 (by omega)
    have z7 : Tryd.prog.cellsOf 24 = 1 := by kernel_rfl
    have f7 : DataW.trod enc Tryd.prog W 0 (fun _ => true) true m 24 [c7] = some y7 := by have this : DataW.trod enc Tryd.prog W 0 (fun _ => true) true m 24 (([c0, c1, c2, c3, c4, c5, c6, c7, c8, c9, c10, c11, c12, c13].drop 7).take (Tryd.prog.cellsOf 24)) = some y7 := hf 7 _ rfl; rw [z7] at this; exact this
    obtain ⟨a7, b7, _, _, r7⟩ := opens_Exprs m enc W _ _ f7 (by omega)
    have z8 : Tryd.prog.cellsOf 9 = 1 := by kernel_rfl
    have f8 : DataW.trod enc Tryd.prog W 0 (fun _ => true) true m 9 [c8] = some y8 := by have this : DataW.trod enc Tryd.prog W 0 (fun _ => true) true m 9 (([c0, c1, c2, c3, c4, c5, c6, c7, c8, c9, c10, c11, c12, c13].drop 8).take (Tryd.prog.cellsOf 9)) = some y8 := hf 8 _ rfl; rw [z8] at this; exact this
    obtain ⟨a8, b8, _, _, r8⟩ := opens_str m enc W _ _ f8 (by omega)
    have z9 : Tryd.prog.cellsOf 24 = 1 := by kernel_rfl
    have f9 : DataW.trod enc Tryd.prog W 0 (fun _ => true) true m 24 [c9] = some y9 := by have this : DataW.trod enc Tryd.prog W 0 (fun _ => true) true m 24 (([c0, c1, c2, c3, c4, c5, c6, c7, c8, c9, c10, c11, c12, c13].drop 9).take (Tryd.prog.cellsOf 24)) = some y9 := hf 9 _ rfl; rw [z9] at this; exact this
    obtain ⟨a9, b9, _, _, r9⟩ := opens_Exprs m enc W _ _ f9 (by omega)
    have z10 : Tryd.prog.cellsOf 24 = 1 := by kernel_rfl
    have f10 : DataW.trod enc Tryd.prog W 0 (fun _ => true) true m 24 [c10] = some y10 := by have this : DataW.trod enc Tryd.prog W 0 (fun _ => true) true m 24 (([c0, c1, c2, c3, c4, c5, c6, c7, c8, c9, c10, c11, c12, c13].drop 10).take (Tryd.prog.cellsOf 24)) = some y10 := hf 10 _ rfl; rw [z10] at this; exact this
    obtain ⟨a10, b10, _, _, r10⟩ := opens_Exprs m enc W _ _ f10 (by omega)
    have z11 : Tryd.prog.cellsOf 24 = 1 := by kernel_rfl
    have f11 : DataW.trod enc Tryd.prog W 0 (fun _ => true) true m 24 [c11] = some y11 := by have this : DataW.trod enc Tryd.prog W 0 (fun _ => true) true m 24 (([c0, c1, c2, c3, c4, c5, c6, c7, c8, c9, c10, c11, c12, c13].drop 11).take (Tryd.prog.cellsOf 24)) = some y11 := hf 11 _ rfl; rw [z11] at this; exact this
    obtain ⟨a11, b11, _, _, r11⟩ := opens_Exprs m enc W _ _ f11 (by omega)
    have z12 : Tryd.prog.cellsOf 42 = 1 := by kernel_rfl
    have f12 : DataW.trod enc Tryd.prog W 0 (fun _ => true) true m 42 [c12] = some y12 := by have this : DataW.trod enc Tryd.prog W 0 (fun _ => true) true m 42 (([c0, c1, c2, c3, c4, c5, c6, c7, c8, c9, c10, c11, c12, c13].drop 12).take (Tryd.prog.cellsOf 42)) = some y12 := hf 12 _ rfl; rw [z12] at this; exact this
    obtain ⟨a12, b12, _, _, r12⟩ := opens_slice Tryd.underlying42 cols_O (by omega) m (fun m _ => opens_Order m) enc W _ _ f12 (by omega)
    have z13 : Tryd.prog.cellsOf 3 = 1 := by kernel_rfl
    have f13 : DataW.trod enc Tryd.prog W 0 (fun _ => true) true m 3 [c13] = some y13 := by have this : DataW.trod enc Tryd.prog W 0 (fun _ => true) true m 3 (([c0, c1, c2, c3, c4, c5, c6, c7, c8, c9, c10, c11, c12, c13].drop 13).take (Tryd.prog.cellsOf 3)) = some y13 := hf 13 _ rfl; rw [z13] at this; exact this
    obtain ⟨a13, b13, _, _, r13⟩ := opens_int m enc W _ _ f13 (by omega)
    refine ⟨⟨a0, a1, a2, a3, a4, a5, a6, a7, a8, a9, a10, a11, a12, a13⟩, ⟨⟨b1, b3, b4, b8, b2.1, b2.2, b5.1, fun l hl => LBd.of (b5.2 l hl), b6.1, fun s hs => ⟨(b6.2 s hs).1, (b6.2 s hs).2.1⟩, LBd.of b7, LBd.of b9, LBd.of b10, LBd.of b11, b12.1⟩, ⟨fun l hl e he => ((b5.2 l hl).2 e he).2, fun s hs => (b6.2 s hs).2.2, fun e he => (b7.2 e he).2, fun e he => (b9.2 e he).2, fun e he => (b10.2 e he).2, fun e he => (b11.2 e he).2, b12.2, b13⟩⟩, rfl, rfl, ?_⟩
    intro i u v h1 h2
    match i, h1, h2 with
    | 0, h1, h2 => exact r0 0 u v h1 h2
    | 1, h1, h2 => exact r1 0 u v h1 h2
    | 2, h1, h2 => exact r2 0 u v h1 h2
    | 3, h1, h2 => exact r3 0 u v h1 h2
    | 4, h1, h2 => exact r4 0 u v h1 h2
    | 5, h1, h2 => exact r5 0 u v h1 h2
    | 6, h1, h2 => exact r6 0 u v h1 h2
    | 7, h1, h2 => exact r7 0 u v h1 h2
    | 8, h1, h2 => exact r8 0 u v h1 h2
    | 9, h1, h2 => exact r9 0 u v h1 h2
    | 10, h1, h2 => exact r10 0 u v h1 h2
    | 11, h1, h2 => exact r11 0 u v h1 h2
    | 12, h1, h2 => exact r12 0 u v h1 h2
    | 13, h1, h2 => exact r13 0 u v h1 h2
    | i + 14, h1, h2 => cases h1
end Go.Proofs.YtodoejfkjimeaaaDoor

set_option linter.unusedSimpArgs false
set_option linter.unusedVariables false
set_option maxRecDepth 100000
namespace Go.Proofs.YtodoejfkjimeaaaDoor
open Go Go.RowKit Am
attribute [-go_sem] guardP_if guardK_if guardD_if COND_bool
attribute [local go_sem low] guardP_if guardK_if guardD_if COND_bool

theorem clR_con (l : List (List Ep)) (hl : l.length ≤ 1048576) (id : Nat) : ConW Tryd.prog 99 [.tr (l.map encRx)] [] id (.ret (.ow id 1 0 l.length)) [(id, some (.c ⟨1, l.map encRx, true, true⟩))] := by
  refine conW_ofE (k := 1) (cl := true) (by kernel_rfl) (fun σ n _ hid hn hf => by_slices_Clone_llapi_Expr_lapi_Expr ?_)
  generalize hR : (fun (r' : AEnd) (σ' : Hp) (_ : Nat) => _) = R
  have HR := Lib.hid hR; clear hR
  have hfr : ∀ j, n ≤ j → ∀ q, q < 16 → j ≠ id + q := fun j hj q hq => by omega
  have HFR := Lib.hid hfr; clear hfr
  have HF := Lib.hid hf; clear hf
  have hnn : ¬ n = n + 16 := by omega
  cases l with
  | nil =>
    simp (maxSteps:=1000000) (disch:=omega) only [sh_slices_Clone_llapi_Expr_lapi_Expr,go_sem,wrapI,wrapB,upd_is,upd_not,Nat.reduceAdd,Nat.reduceSub,Nat.reduceMul,Nat.reduceLeDiff,Nat.reduceEqDiff,Int.reduceAdd,Int.reduceSub,Int.reduceMul,Int.reduceNeg,Int.reduceLT,Int.reduceLE,Int.reduceEq,Int.reduceToNat,reduceCtorEq,reduceIte,Nat.zero_add,Nat.add_zero, *]
    constructor
    · rw [← HR.out]
      exact .inr ⟨rfl, rfl, rfl, fun i x h => h⟩
    · rw [← HR.out]
      refine .inl (wn_new ?_ (HFR.out _ (by omega)) (HF.out _ (by omega)) (fun i y hy => ?_))
      · simp only [upd_is]
        rfl
      · have h1 : i ≠ n := fun e => by rw [e, HF.out n (by omega)] at hy; cases hy
        have h2 : i ≠ n + 16 := fun e => by rw [e, HF.out (n + 16) (by omega)] at hy; cases hy
        simp only [upd_not h1, upd_not h2]; exact hy
  | cons v r =>
    have hl2 : (r.length + 1) * 24 ≤ 140737488355328 := by simp at hl; omega
    simp (maxSteps:=1000000) (disch:=omega) only [sh_slices_Clone_llapi_Expr_lapi_Expr,encRx,go_sem,wrapI,wrapB,upd_is,upd_not,Nat.reduceAdd,Nat.reduceSub,Nat.reduceMul,Nat.reduceLeDiff,Nat.reduceEqDiff,Int.reduceAdd,Int.reduceSub,Int.reduceMul,Int.reduceNeg,Int.reduceLT,Int.reduceLE,Int.reduceEq,Int.reduceToNat,reduceCtorEq,reduceIte,Nat.zero_add,Nat.add_zero, *]
    rw [← HR.out]
    refine .inl (wn_new ?_ (HFR.out _ (by omega)) (HF.out _ (by omega)) (fun i y hy => ?_))
    · simp only [upd_is]
      rfl
    · have h1 : i ≠ n := fun e => by rw [e, HF.out n (by omega)] at hy; cases hy
      have h2 : i ≠ n + 16 := fun e => by rw [e, HF.out (n + 16) (by omega)] at hy; cases hy
      simp only [upd_not h1, upd_not h2]; exact hy
end Go.Proofs.YtodoejfkjimeaaaDoor

set_option linter.unusedSimpArgs false
set_option linter.unusedVariables false
set_option maxRecDepth 100000
namespace Go.Proofs.YtodoejfkjimeaaaDoor
open Go Go.RowKit Am
attribute [-go_sem] guardP_if guardK_if guardD_if COND_bool
attribute [local go_sem low] guardP_if guardK_if guardD_if COND_bool

def listsF (x : Sm) : List (List Ep) := x.rows ++ (x.sets.map (fun s => [s.ex]) ++ [x.items, x.on, x.where_, x.group])
abbrev rndR (n0 n : Nat) (σ : Hp) (J Q : Hp → Prop) : AEnd → Hp → Nat → Prop := fun r σ' _ => (∀ i, n0 ≤ i → i < n → σ' i = σ i) ∧ ((r = .ret (bb true) ∧ J σ') ∨ (r = .ret (bb false) ∧ Q σ'))
theorem flat_take {α : Type} {L : List (List α)} {i : Nat} {l : List α} (h : L[i]? = some l) : (L.take (i + 1)).flatten = (L.take i).flatten ++ l := by
  rw [List.take_add_one, h, List.flatten_append]; simp
theorem flat_split {α : Type} {L : List (List α)} {i : Nat} {l : List α} (h : L[i]? = some l) : L.flatten = (L.take i).flatten ++ (l ++ (L.drop (i + 1)).flatten) := by
  have hi := (List.getElem?_eq_some_iff.1 h).1
  have e : L = L.take i ++ (l :: L.drop (i + 1)) := by
    have h2 := (List.getElem?_eq_some_iff.1 h).2
    rw [← h2, ← List.drop_eq_getElem_cons hi, List.take_append_drop]
  conv => lhs; rw [e]
  simp
theorem take_split {α : Type} {l : List α} {j : Nat} {e : α} (h : l[j]? = some e) : l = l.take j ++ e :: l.drop (j + 1) := by
  obtain ⟨hi, h2⟩ := List.getElem?_eq_some_iff.1 h
  rw [← h2, ← List.drop_eq_getElem_cons hi, List.take_append_drop]
set_option maxHeartbeats 8000000 in
theorem exprs_con (x : Sm) (hb : SBd x) (y : Nat) (J : List Ep → Hp → Prop) (Q : Hp → Prop) (σ0 : Hp) (n0 : Nat) (hJ : ∀ pre σ σ', J pre σ → (∀ i, i < n0 → σ' i = σ i) → J pre σ')
    (hr : ∀ pre e post σ n, (listsF x).flatten = pre ++ e :: post → n0 ≤ n → J pre σ → YCon Tryd.prog y [.ag (encE e)] σ n (rndR n0 n σ (J (pre ++ [e])) Q)) (h0 : J [] σ0) :
    ConH Tryd.prog 58 [.ag (encSm x), .yl y] σ0 n0 (fun r σ' _ => r = .ret (.tp []) ∧ (J (listsF x).flatten σ' ∨ Q σ')) := by
  refine by_syntax_exprs ?_
  generalize hR : (fun (r' : AEnd) (σ' : Hp) (_ : Nat) => _) = R
  have HR := Lib.hid hR; clear hR
  have HJ := Lib.hid hJ; clear hJ
  have HY := Lib.hid hr; clear hr
  have H0 := Lib.hid h0; clear h0
  obtain ⟨kind, table, columns, key, index, rows, sets, items, join, on, wh, group, order, limit⟩ := x
  have HB := Lib.hid hb
  have hrl : rows.length ≤ 1048576 := hb.rows
  have hsl : sets.length ≤ 1048576 := hb.sets
  clear hb
  simp (maxSteps:=1000000) (disch:=omega) only [sh_syntax_exprs,encSm,go_sem,wrapI,wrapB,upd_is,upd_not,Nat.reduceAdd,Nat.reduceSub,Nat.reduceMul,Nat.reduceLeDiff,Nat.reduceEqDiff,Int.reduceAdd,Int.reduceSub,Int.reduceMul,Int.reduceNeg,Int.reduceLT,Int.reduceLE,Int.reduceEq,Int.reduceToNat,reduceCtorEq,reduceIte,Nat.zero_add,Nat.add_zero, *]
  refine CALL_conW (clR_con rows hrl (n0 + 16)) (fun p hp => by cases hp) (fun n' hn' => ?_)
  have HN := Lib.hid hn'
  simp (maxSteps:=1000000) (disch:=omega) only [applyW_cons,applyW_nil,go_sem,wrapI,wrapB,upd_is,upd_not,Nat.reduceAdd,Nat.reduceSub,Nat.reduceMul,Nat.reduceLeDiff,Nat.reduceEqDiff,Int.reduceAdd,Int.reduceSub,Int.reduceMul,Int.reduceNeg,Int.reduceLT,Int.reduceLE,Int.reduceEq,Int.reduceToNat,reduceCtorEq,reduceIte,Nat.zero_add,Nat.add_zero, *]
  intro _
  refine LOOP_listM sets (fun i s σ n => ∃ a b m, s = [a, b, .ow m 1 0 (rows.length + i), .sc (.int .i64 i)] ∧ n0 + 16 ≤ m ∧ m < n ∧ σ m = some (.c ⟨1, rows.map encRx ++ (sets.take i).map (fun s => encRx [s.ex]), true, true⟩) ∧
    σ n0 = some (.c ⟨14, [[.sc (.int .i64 kind), .s table, .tr (columns.map encC), .s key, .s index, .tr (rows.map encRx), .tr (sets.map encS), .tr (items.map encE), .s join, .tr (on.map encE), .tr (wh.map encE), .tr (group.map encE), .tr (order.map encO), .sc (.int .i64 limit)]], true, false⟩) ∧ J [] σ)
    (.refl ⟨_, _, n0 + 16, rfl, by omega, by omega, ?_, ?_, HJ.out _ _ _ H0.out (fun i hi => by simp (disch := omega) only [upd_not])⟩) ?_ ?_
  · rw [upd_is rfl]; simp
  · rw [upd_not (by omega), upd_is rfl]
  · rintro i s K s' σ n hx hi1 hi' hn1 ⟨a, b, m, rfl, hm, hmn, hσm, hσ0, hj⟩ hK
    have HK := Lib.hid hK; clear hK
    have HJJ := Lib.hid hj; clear hj
    have hl : (rows.map encRx ++ (sets.take i).map (fun s => encRx [s.ex])).length = rows.length + i := by simp; omega
    have hnx : rows.map encRx ++ (sets.take (i + 1)).map (fun s => encRx [s.ex]) = (rows.map encRx ++ (sets.take i).map (fun s => encRx [s.ex])) ++ [encRx [s.ex]] := by
      rw [List.take_add_one, hx, List.map_append, ← List.append_assoc]; rfl
    have HNX := Lib.hid hnx; clear hnx
    generalize hRW : rows.map encRx ++ (sets.take i).map (fun s => encRx [s.ex]) = RW at hσm hl
    have HRW := Lib.hid hRW; clear hRW
    have c1 : (rows.length + i + 1) * 24 ≤ 140737488355328 := by omega
    have c2 : ¬ m = n + 16 + 16 + 16 + 16 := by omega
    simp (maxSteps:=1000000) (disch:=omega) only [lb_syntax_exprs4,encS,encE_eq,encRx,go_sem,wrapI,wrapB,upd_is,upd_not,Nat.reduceAdd,Nat.reduceSub,Nat.reduceMul,Nat.reduceLeDiff,Nat.reduceEqDiff,Int.reduceAdd,Int.reduceSub,Int.reduceMul,Int.reduceNeg,Int.reduceLT,Int.reduceLE,Int.reduceEq,Int.reduceToNat,reduceCtorEq,reduceIte,Nat.zero_add,Nat.add_zero, *]
    refine HK.out _ _ _ (.refl ?_)
    refine ⟨_, _, n + 16 + 16 + 16 + 16, rfl, by omega, ?_, ?_, ?_, ?_⟩
    · omega
    · rw [upd_is rfl, HNX.out, HRW.out]; simp only [encRx, encE_eq, List.map_cons, List.map_nil]
    · simp (disch := omega) only [upd_not]; exact hσ0
    · exact HJ.out _ _ _ HJJ.out (fun i hi => by simp (disch := omega) only [upd_not])
  · rintro K s' σ n hn1 ⟨a, b, m, rfl, hm, hmn, hσm, hσ0, hj⟩
    rw [List.take_length] at hσm
    have HJJ := Lib.hid hj; clear hj
    have hl : (rows.map encRx ++ sets.map (fun s => encRx [s.ex])).length = rows.length + sets.length := by simp
    generalize hRW : rows.map encRx ++ sets.map (fun s => encRx [s.ex]) = RW at hσm hl
    have HRW := Lib.hid hRW; clear hRW
    have c1 : (rows.length + sets.length + 4) * 24 ≤ 140737488355328 := by omega
    have c2 : ¬ m = n + 16 := by omega
    simp (maxSteps:=1000000) (disch:=omega) only [lb_syntax_exprs4,Int.lt_irrefl,go_sem,wrapI,wrapB,upd_is,upd_not,Nat.reduceAdd,Nat.reduceSub,Nat.reduceMul,Nat.reduceLeDiff,Nat.reduceEqDiff,Int.reduceAdd,Int.reduceSub,Int.reduceMul,Int.reduceNeg,Int.reduceLT,Int.reduceLE,Int.reduceEq,Int.reduceToNat,reduceCtorEq,reduceIte,Nat.zero_add,Nat.add_zero, *]
    intro _
    have hLL : RW ++ [[AV.tr (items.map encE)], [AV.tr (on.map encE)], [AV.tr (wh.map encE)], [AV.tr (group.map encE)]] = (listsF ⟨kind, table, columns, key, index, rows, sets, items, join, on, wh, group, order, limit⟩).map encRx := by
      rw [← HRW.out]; simp [listsF, encRx, Function.comp_def]
    have hlen : (listsF ⟨kind, table, columns, key, index, rows, sets, items, join, on, wh, group, order, limit⟩).length = rows.length + sets.length + 4 := by simp [listsF]; omega
    rw [hLL]
    have hlb : ∀ l ∈ listsF ⟨kind, table, columns, key, index, rows, sets, items, join, on, wh, group, order, limit⟩, l.length ≤ 1048576 := by
      have hb := HB.out
      intro l hl
      simp only [listsF, List.mem_append, List.mem_map, List.mem_cons, List.not_mem_nil, or_false] at hl
      rcases hl with h | ⟨s, hs, rfl⟩ | rfl | rfl | rfl | rfl
      · exact (hb.row l h).len
      · simp
      · exact hb.items.len
      · exact hb.on.len
      · exact hb.where_.len
      · exact hb.group.len
    clear hLL HRW hl hσm hσ0
    generalize listsF ⟨kind, table, columns, key, index, rows, sets, items, join, on, wh, group, order, limit⟩ = LL at HR HY hlen hlb
    refine LOOP_listM LL (fun i s σ' n' => ∃ a b c d e f g h, s = [a, b, c, d, e, f, g, h, .sc (.int .i64 i)] ∧ n + 16 < n' ∧ σ' (n + 16) = some (.c ⟨1, LL.map encRx, true, true⟩) ∧ J (LL.take i).flatten σ')
      (.refl ⟨_, _, _, _, _, _, _, _, rfl, by omega, upd_is rfl, HJ.out _ _ _ HJJ.out (fun i hi => by simp (disch := omega) only [upd_not])⟩) ?_ ?_
    · rintro i l K s' σ2 n2 hx hi1 hi' hn2 ⟨a, b, c, d, e, f, g, h, rfl, hnn, hσm, hj⟩ hK
      have HK := Lib.hid hK; clear hK
      have HJ2 := Lib.hid hj; clear hj
      have HLB := Lib.hid hlb
      have hll : l.length ≤ 1048576 := hlb l (List.mem_of_getElem? hx)
      have hi2 : (i : Int) < ((rows.length + sets.length + 4 : Nat) : Int) := by rw [← hlen]; exact hi'
      have hi3 : i < rows.length + sets.length + 4 := by omega
      clear hlb
      simp (maxSteps:=1000000) (disch:=omega) only [lb_syntax_exprs3,encRx,go_sem,wrapI,wrapB,upd_is,upd_not,Nat.reduceAdd,Nat.reduceSub,Nat.reduceMul,Nat.reduceLeDiff,Nat.reduceEqDiff,Int.reduceAdd,Int.reduceSub,Int.reduceMul,Int.reduceNeg,Int.reduceLT,Int.reduceLE,Int.reduceEq,Int.reduceToNat,reduceCtorEq,reduceIte,Nat.zero_add,Nat.add_zero, *]
      intro _
      refine LOOP_listM l (fun j s σ' n' => ∃ p q r, s = [p, q, r, .sc (.int .i64 j)] ∧ n + 16 < n' ∧ σ' (n + 16) = some (.c ⟨1, LL.map encRx, true, true⟩) ∧ J ((LL.take i).flatten ++ l.take j) σ')
        (.refl ⟨_, _, _, rfl, hnn, hσm, by simpa using HJ2.out⟩) ?_ ?_
      · rintro j z K2 s2 σ3 n3 hz hj1 hj' hn3 ⟨p, q, r, rfl, hnn3, hσ3, hj3⟩ hK2
        have HK2 := Lib.hid hK2; clear hK2
        have HJ3 := Lib.hid hj3; clear hj3
        have hfl : LL.flatten = ((LL.take i).flatten ++ l.take j) ++ z :: (l.drop (j + 1) ++ (LL.drop (i + 1)).flatten) := by
          rw [flat_split hx]
          conv => lhs; rw [take_split hz]
          simp
        have HFL := Lib.hid hfl; clear hfl
        have hnx : (LL.take i).flatten ++ l.take (j + 1) = ((LL.take i).flatten ++ l.take j) ++ [z] := by rw [List.take_add_one, hz, ← List.append_assoc]; rfl
        have HNX := Lib.hid hnx; clear hnx
        have HHM := Lib.hid hσ3
        simp (maxSteps:=1000000) (disch:=omega) only [lb_syntax_exprs2,encE_eq,go_sem,wrapI,wrapB,upd_is,upd_not,Nat.reduceAdd,Nat.reduceSub,Nat.reduceMul,Nat.reduceLeDiff,Nat.reduceEqDiff,Int.reduceAdd,Int.reduceSub,Int.reduceMul,Int.reduceNeg,Int.reduceLT,Int.reduceLE,Int.reduceEq,Int.reduceToNat,reduceCtorEq,reduceIte,Nat.zero_add,Nat.add_zero, *]
        refine .y ⟨_, (by rw [← encE_eq]; exact HY.out _ z _ _ _ HFL.out (by omega) (HJ.out _ _ _ HJ3.out (fun i hi => by simp (disch := omega) only [upd_not]))), ?_⟩
        rintro r' σ4 n4 ⟨hk4, hor⟩ hn4
        rcases hor with ⟨rfl, hj4⟩ | ⟨rfl, hq4⟩
        · have HJ4 := Lib.hid hj4; clear hj4
          have HK4 := Lib.hid hk4; clear hk4
          simp (maxSteps:=1000000) (disch:=omega) only [go_sem,wrapI,wrapB,upd_is,upd_not,Nat.reduceAdd,Nat.reduceSub,Nat.reduceMul,Nat.reduceLeDiff,Nat.reduceEqDiff,Int.reduceAdd,Int.reduceSub,Int.reduceMul,Int.reduceNeg,Int.reduceLT,Int.reduceLE,Int.reduceEq,Int.reduceToNat,reduceCtorEq,reduceIte,Nat.zero_add,Nat.add_zero, *]
          refine HK2.out _ _ _ (.refl ⟨_, _, _, rfl, ?_, ?_, ?_⟩)
          · omega
          · rw [HK4.out _ (by omega) (by omega)]
            simp (disch := omega) only [upd_not]; exact HHM.out
          · rw [HNX.out]; exact HJ4.out
        · have HQ4 := Lib.hid hq4; clear hq4
          clear hk4
          simp (maxSteps:=1000000) (disch:=omega) only [go_sem,wrapI,wrapB,upd_is,upd_not,Nat.reduceAdd,Nat.reduceSub,Nat.reduceMul,Nat.reduceLeDiff,Nat.reduceEqDiff,Int.reduceAdd,Int.reduceSub,Int.reduceMul,Int.reduceNeg,Int.reduceLT,Int.reduceLE,Int.reduceEq,Int.reduceToNat,reduceCtorEq,reduceIte,Nat.zero_add,Nat.add_zero, *]
          rw [← HR.out]
          exact ⟨rfl, .inr HQ4.out⟩
      · rintro K2 s2 σ3 n3 hn3 ⟨p, q, r, rfl, hnn3, hσ3, hj3⟩
        rw [List.take_length, ← flat_take hx] at hj3
        have HJ3 := Lib.hid hj3; clear hj3
        have HHM := Lib.hid hσ3; clear hσ3
        simp (maxSteps:=1000000) (disch:=omega) only [lb_syntax_exprs2,Int.lt_irrefl,go_sem,wrapI,wrapB,upd_is,upd_not,Nat.reduceAdd,Nat.reduceSub,Nat.reduceMul,Nat.reduceLeDiff,Nat.reduceEqDiff,Int.reduceAdd,Int.reduceSub,Int.reduceMul,Int.reduceNeg,Int.reduceLT,Int.reduceLE,Int.reduceEq,Int.reduceToNat,reduceCtorEq,reduceIte,Nat.zero_add,Nat.add_zero, *]
        exact HK.out _ _ _ (.refl ⟨_, _, _, _, _, _, _, _, rfl, by omega, HHM.out, HJ3.out⟩)
    · rintro K s' σ2 n2 hn2 ⟨a, b, c, d, e, f, g, h, rfl, hnn, hσm, hj⟩
      rw [List.take_length] at hj
      have HJ2 := Lib.hid hj; clear hj
      rw [hlen]
      simp (maxSteps:=1000000) (disch:=omega) only [lb_syntax_exprs3,Int.lt_irrefl,go_sem,wrapI,wrapB,upd_is,upd_not,Nat.reduceAdd,Nat.reduceSub,Nat.reduceMul,Nat.reduceLeDiff,Nat.reduceEqDiff,Int.reduceAdd,Int.reduceSub,Int.reduceMul,Int.reduceNeg,Int.reduceLT,Int.reduceLE,Int.reduceEq,Int.reduceToNat,reduceCtorEq,reduceIte,Nat.zero_add,Nat.add_zero, *]
      rw [← HR.out]
      exact ⟨rfl, .inl HJ2.out⟩
end Go.Proofs.YtodoejfkjimeaaaDoor
