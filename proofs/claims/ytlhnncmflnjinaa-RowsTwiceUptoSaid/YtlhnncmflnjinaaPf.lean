/- The laws of layer 9: their helpers. -/
import Derived.Test.YtlhnncmflnjinaaPb
set_option linter.unusedSimpArgs false
set_option linter.unusedVariables false
set_option maxRecDepth 100000
namespace Go.Proofs.Ytlhnncmflnjinaa
open Go Go.RowKit Am Go.ChangeShapes Go.WideShapes Go.ChangeAt
attribute [-go_sem] guardP_if guardK_if guardD_if COND_bool
attribute [local go_sem low] guardP_if guardK_if guardD_if COND_bool

theorem opens_IndexR (n : Nat) : Opens 132 2 encX (fun x : Ix => x.name.length ≤ 1048576 ∧ rng x.at_) n := by
  intro H enc W cs x h hb
  obtain ⟨xs, m, rfl, rfl, hl, hlen, hf⟩ := DataW.trod_struct Try.underlying132 h
  have hc : Try.prog.cellsOf 132 = 2 := by kernel_rfl
  rw [hc] at hl
  simp only [Rows.uptoBulk] at hb
  match cs, hl, xs, hlen, hf, hb with
  | [c0, c1], _, [y0, y1], _, hf, hb =>
    simp only [List.map_cons, List.map_nil, Rows.uptoBulkAll] at hb
    have z0 : Try.prog.cellsOf 9 = 1 := by kernel_rfl
    have f0 : DataW.trod enc Try.prog W 0 (fun _ => true) true m 9 [c0] = some y0 := by have this : DataW.trod enc Try.prog W 0 (fun _ => true) true m 9 (([c0, c1].drop 0).take (Try.prog.cellsOf 9)) = some y0 := hf 0 _ rfl; rw [z0] at this; exact this
    obtain ⟨a0, b0, _, _, r0⟩ := opens_str m enc W _ _ f0 (by omega)
    have z1 : Try.prog.cellsOf 3 = 1 := by kernel_rfl
    have f1 : DataW.trod enc Try.prog W 0 (fun _ => true) true m 3 [c1] = some y1 := by have this : DataW.trod enc Try.prog W 0 (fun _ => true) true m 3 (([c0, c1].drop 1).take (Try.prog.cellsOf 3)) = some y1 := hf 1 _ rfl; rw [z1] at this; exact this
    obtain ⟨a1, b1, _, _, r1⟩ := opens_int m enc W _ _ f1 (by omega)
    refine ⟨⟨a0, a1⟩, ⟨b0, b1⟩, rfl, rfl, ?_⟩
    intro i u v h1 h2
    match i, h1, h2 with
    | 0, h1, h2 => exact r0 0 u v h1 h2
    | 1, h1, h2 => exact r1 0 u v h1 h2
    | i + 2, h1, h2 => cases h1
theorem opens_TableR (n : Nat) : Opens 43 4 encT TRg n := by
  intro H enc W cs x h hb
  obtain ⟨xs, m, rfl, rfl, hl, hlen, hf⟩ := DataW.trod_struct Try.underlying43 h
  have hc : Try.prog.cellsOf 43 = 4 := by kernel_rfl
  rw [hc] at hl
  simp only [Rows.uptoBulk] at hb
  match cs, hl, xs, hlen, hf, hb with
  | [c0, c1, c2, c3], _, [y0, y1, y2, y3], _, hf, hb =>
    simp only [List.map_cons, List.map_nil, Rows.uptoBulkAll] at hb
    have z0 : Try.prog.cellsOf 9 = 1 := by kernel_rfl
    have f0 : DataW.trod enc Try.prog W 0 (fun _ => true) true m 9 [c0] = some y0 := by have this : DataW.trod enc Try.prog W 0 (fun _ => true) true m 9 (([c0, c1, c2, c3].drop 0).take (Try.prog.cellsOf 9)) = some y0 := hf 0 _ rfl; rw [z0] at this; exact this
    obtain ⟨a0, b0, _, _, r0⟩ := opens_str m enc W _ _ f0 (by omega)
    have z1 : Try.prog.cellsOf 40 = 1 := by kernel_rfl
    have f1 : DataW.trod enc Try.prog W 0 (fun _ => true) true m 40 [c1] = some y1 := by have this : DataW.trod enc Try.prog W 0 (fun _ => true) true m 40 (([c0, c1, c2, c3].drop 1).take (Try.prog.cellsOf 40)) = some y1 := hf 1 _ rfl; rw [z1] at this; exact this
    obtain ⟨a1, b1, _, _, r1⟩ := opens_slice Try.underlying40 cols_C (by omega) m (fun m _ => opens_Column m) enc W _ _ f1 (by omega)
    have z2 : Try.prog.cellsOf 3 = 1 := by kernel_rfl
    have f2 : DataW.trod enc Try.prog W 0 (fun _ => true) true m 3 [c2] = some y2 := by have this : DataW.trod enc Try.prog W 0 (fun _ => true) true m 3 (([c0, c1, c2, c3].drop 2).take (Try.prog.cellsOf 3)) = some y2 := hf 2 _ rfl; rw [z2] at this; exact this
    obtain ⟨a2, b2, _, _, r2⟩ := opens_int m enc W _ _ f2 (by omega)
    have z3 : Try.prog.cellsOf 41 = 1 := by kernel_rfl
    have f3 : DataW.trod enc Try.prog W 0 (fun _ => true) true m 41 [c3] = some y3 := by have this : DataW.trod enc Try.prog W 0 (fun _ => true) true m 41 (([c0, c1, c2, c3].drop 3).take (Try.prog.cellsOf 41)) = some y3 := hf 3 _ rfl; rw [z3] at this; exact this
    obtain ⟨a3, b3, _, _, r3⟩ := opens_slice Try.underlying41 cols_X (by omega) m (fun m _ => opens_IndexR m) enc W _ _ f3 (by omega)
    refine ⟨⟨a0, a1, a2, a3⟩, ⟨⟨b0, b1, ⟨b3.1, fun c hc => (b3.2 c hc).1⟩⟩, b2, fun c hc => (b3.2 c hc).2⟩, rfl, rfl, ?_⟩
    intro i u v h1 h2
    match i, h1, h2 with
    | 0, h1, h2 => exact r0 0 u v h1 h2
    | 1, h1, h2 => exact r1 0 u v h1 h2
    | 2, h1, h2 => exact r2 0 u v h1 h2
    | 3, h1, h2 => exact r3 0 u v h1 h2
    | i + 4, h1, h2 => cases h1
theorem cols_V : Try.prog.cellsOf 24 = 3 := by kernel_rfl
theorem cols_R : Try.prog.cellsOf 69 = 1 := by kernel_rfl
theorem opens_Row (n : Nat) : Opens 69 1 encR (fun l : Rw => l.length ≤ 1048576 ∧ ∀ a ∈ l, a.text.length ≤ 1048576 ∧ rng a.n) n :=
  opens_slice Try.underlying69 cols_V (by omega) n (fun m _ => opens_Value m)
instance : Inhabited Rw := ⟨[]⟩
theorem opens_Rows (n : Nat) : Opens 68 1 (fun l : List Rw => [.tr (l.map encR)]) (fun l => l.length ≤ 1048576 ∧ ∀ a ∈ l, a.length ≤ 1048576 ∧ ∀ v ∈ a, v.text.length ≤ 1048576 ∧ rng v.n) n :=
  opens_slice Try.underlying68 cols_R (by omega) n (fun m _ => opens_Row m)
theorem num9_con (n : Int) : Con Try.prog 29 [.sc (.int .i64 n)] (.ret (.sc (.int .i64 n))) := by
  refine con_of (by_law09_num ?_)
  exact RC_ret rfl rfl
def tb9 : Tb := ⟨[116], [⟨[97], 1, true⟩, ⟨[98], 3, false⟩], 0, []⟩
theorem table9_con : Con Try.prog 69 [] (.ret (.ag (encT tb9))) := by
  refine con_of (by_law09_table ?_)
  simp (maxSteps := 1000000) (disch := omega) only [sh_law09_table, go_sem, wrapI, wrapB, upd_is, upd_not, Nat.reduceAdd, Nat.reduceSub, Nat.reduceMul, Nat.reduceLeDiff, Nat.reduceEqDiff, Int.reduceAdd, Int.reduceSub, Int.reduceMul, Int.reduceNeg, Int.reduceLT, Int.reduceLE, Int.reduceEq, Int.reduceToNat, reduceCtorEq, reduceIte, Nat.zero_add, Nat.add_zero, *]
  exact RC_ret (I := [16]) (by simp (disch := omega) only [brw_ag, brwL_cons, brwL_nil, brw_s, brw_em, brw_ow', upd_is, upd_not, brw_sc]; rfl) rfl
def rw9 (n : Int) : Rw := [⟨1, n, []⟩, ⟨3, 0, [120]⟩]
theorem row9_con (n : Int) : Con Try.prog 70 [.sc (.int .i64 n)] (.ret (.tr ((rw9 n).map encV))) := by
  refine con_of (by_law09_row ?_)
  simp (maxSteps := 1000000) (disch := omega) only [sh_law09_row, go_sem, wrapI, wrapB, upd_is, upd_not, Nat.reduceAdd, Nat.reduceSub, Nat.reduceMul, Nat.reduceLeDiff, Nat.reduceEqDiff, Int.reduceAdd, Int.reduceSub, Int.reduceMul, Int.reduceNeg, Int.reduceLT, Int.reduceLE, Int.reduceEq, Int.reduceToNat, reduceCtorEq, reduceIte, Nat.zero_add, Nat.add_zero, *]
  exact RC_ret (I := [0]) (by simp (disch := omega) only [brw_ag, brwL_cons, brwL_nil, brw_s, brw_em, brw_ow', upd_is, upd_not, brw_sc]; rfl) rfl
theorem tb9_rg : TRg tb9 := by
  refine ⟨⟨by decide, ⟨by decide, ?_⟩, ⟨by decide, ?_⟩⟩, by unfold rng; decide, ?_⟩
  · intro c hc; simp [tb9] at hc; rcases hc with rfl | rfl <;> simp
  · intro c hc; cases hc
  · intro c hc; cases hc
theorem ins9 : insertF tb9 [] [rw9 2, rw9 1] = ([rw9 1, rw9 2], 0) := by kernel_rfl
theorem upd9 : updateF tb9 [rw9 1, rw9 2] [⟨1, 1, []⟩, ⟨1, 2, []⟩] [rw9 2, rw9 1] = ([rw9 1, rw9 2], 0) := by kernel_rfl
theorem alive9_con : Con Try.prog 26 [] (.ret (.sc (.bool true))) := by
  refine con_of (by_law09_alive ?_)
  have HI := Lib.hid (rinsert_con tb9 [] [rw9 2, rw9 1] tb9_rg)
  have HU := Lib.hid (rupdate_con tb9 [rw9 1, rw9 2] [⟨1, 1, []⟩, ⟨1, 2, []⟩] [rw9 2, rw9 1] tb9_rg)
  rw [ins9] at HI
  rw [upd9] at HU
  simp (maxSteps := 1000000) (disch := omega) only [sh_law09_alive, go_sem, wrapI, wrapB, upd_is, upd_not, Nat.reduceAdd, Nat.reduceSub, Nat.reduceMul, Nat.reduceLeDiff, Nat.reduceEqDiff, Int.reduceAdd, Int.reduceSub, Int.reduceMul, Int.reduceNeg, Int.reduceLT, Int.reduceLE, Int.reduceEq, Int.reduceToNat, reduceCtorEq, reduceIte, Nat.zero_add, Nat.add_zero, *]
  refine CALL_con0 table9_con rfl ?_
  simp (maxSteps := 1000000) (disch := omega) only [go_sem, wrapI, wrapB, upd_is, upd_not, Nat.reduceAdd, Nat.reduceSub, Nat.reduceMul, Nat.reduceLeDiff, Nat.reduceEqDiff, Int.reduceAdd, Int.reduceSub, Int.reduceMul, Int.reduceNeg, Int.reduceLT, Int.reduceLE, Int.reduceEq, Int.reduceToNat, reduceCtorEq, reduceIte, Nat.zero_add, Nat.add_zero, *]
  refine CALL_con0 (row9_con 2) rfl ?_
  simp (maxSteps := 1000000) (disch := omega) only [go_sem, wrapI, wrapB, upd_is, upd_not, Nat.reduceAdd, Nat.reduceSub, Nat.reduceMul, Nat.reduceLeDiff, Nat.reduceEqDiff, Int.reduceAdd, Int.reduceSub, Int.reduceMul, Int.reduceNeg, Int.reduceLT, Int.reduceLE, Int.reduceEq, Int.reduceToNat, reduceCtorEq, reduceIte, Nat.zero_add, Nat.add_zero, *]
  refine CALL_con0 (row9_con 1) rfl ?_
  simp (maxSteps := 1000000) (disch := omega) only [go_sem, wrapI, wrapB, upd_is, upd_not, Nat.reduceAdd, Nat.reduceSub, Nat.reduceMul, Nat.reduceLeDiff, Nat.reduceEqDiff, Int.reduceAdd, Int.reduceSub, Int.reduceMul, Int.reduceNeg, Int.reduceLT, Int.reduceLE, Int.reduceEq, Int.reduceToNat, reduceCtorEq, reduceIte, Nat.zero_add, Nat.add_zero, *]
  refine CALL_con (I := [0]) HI.out (by simp (disch := omega) only [List.append_nil, encT_brw, brw_tr, brw_ag, Option.map_some, brwL_cons, brwL_nil, brw_s, brw_em, brw_ow', upd_is, upd_not, brw_sc]; rfl) ?_
  simp (maxSteps := 1000000) (disch := omega) only [go_sem, wrapI, wrapB, upd_is, upd_not, Nat.reduceAdd, Nat.reduceSub, Nat.reduceMul, Nat.reduceLeDiff, Nat.reduceEqDiff, Int.reduceAdd, Int.reduceSub, Int.reduceMul, Int.reduceNeg, Int.reduceLT, Int.reduceLE, Int.reduceEq, Int.reduceToNat, reduceCtorEq, reduceIte, Nat.zero_add, Nat.add_zero, *]
  refine CALL_con0 table9_con rfl ?_
  simp (maxSteps := 1000000) (disch := omega) only [go_sem, wrapI, wrapB, upd_is, upd_not, Nat.reduceAdd, Nat.reduceSub, Nat.reduceMul, Nat.reduceLeDiff, Nat.reduceEqDiff, Int.reduceAdd, Int.reduceSub, Int.reduceMul, Int.reduceNeg, Int.reduceLT, Int.reduceLE, Int.reduceEq, Int.reduceToNat, reduceCtorEq, reduceIte, Nat.zero_add, Nat.add_zero, *]
  refine CALL_con0 (row9_con 2) rfl ?_
  simp (maxSteps := 1000000) (disch := omega) only [go_sem, wrapI, wrapB, upd_is, upd_not, Nat.reduceAdd, Nat.reduceSub, Nat.reduceMul, Nat.reduceLeDiff, Nat.reduceEqDiff, Int.reduceAdd, Int.reduceSub, Int.reduceMul, Int.reduceNeg, Int.reduceLT, Int.reduceLE, Int.reduceEq, Int.reduceToNat, reduceCtorEq, reduceIte, Nat.zero_add, Nat.add_zero, *]
  refine CALL_con0 (row9_con 1) rfl ?_
  simp (maxSteps := 1000000) (disch := omega) only [go_sem, wrapI, wrapB, upd_is, upd_not, Nat.reduceAdd, Nat.reduceSub, Nat.reduceMul, Nat.reduceLeDiff, Nat.reduceEqDiff, Int.reduceAdd, Int.reduceSub, Int.reduceMul, Int.reduceNeg, Int.reduceLT, Int.reduceLE, Int.reduceEq, Int.reduceToNat, reduceCtorEq, reduceIte, Nat.zero_add, Nat.add_zero, *]
  refine CALL_con (I := [16, 32]) HU.out (by simp (disch := omega) only [List.append_nil, encT_brw, brw_tr, brw_ag, Option.map_some, brwL_cons, brwL_nil, brw_s, brw_em, brw_ow', upd_is, upd_not, brw_sc]; rfl) ?_
  simp (maxSteps := 1000000) (disch := omega) only [go_sem, wrapI, wrapB, upd_is, upd_not, Nat.reduceAdd, Nat.reduceSub, Nat.reduceMul, Nat.reduceLeDiff, Nat.reduceEqDiff, Int.reduceAdd, Int.reduceSub, Int.reduceMul, Int.reduceNeg, Int.reduceLT, Int.reduceLE, Int.reduceEq, Int.reduceToNat, reduceCtorEq, reduceIte, Nat.zero_add, Nat.add_zero, *]
  refine CALL_con0 (num9_con 0) rfl ?_
  simp (maxSteps := 1000000) (disch := omega) only [go_sem, wrapI, wrapB, upd_is, upd_not, Nat.reduceAdd, Nat.reduceSub, Nat.reduceMul, Nat.reduceLeDiff, Nat.reduceEqDiff, Int.reduceAdd, Int.reduceSub, Int.reduceMul, Int.reduceNeg, Int.reduceLT, Int.reduceLE, Int.reduceEq, Int.reduceToNat, reduceCtorEq, reduceIte, Nat.zero_add, Nat.add_zero, *]
  refine CALL_con0 (num9_con 0) rfl ?_
  have c2 : ((2 : Nat) : Int) = 2 := rfl
  simp (maxSteps := 1000000) (disch := omega) only [encR, rw9, encV, List.map_cons, List.map_nil, decide_true, go_sem, wrapI, wrapB, upd_is, upd_not, Nat.reduceAdd, Nat.reduceSub, Nat.reduceMul, Nat.reduceLeDiff, Nat.reduceEqDiff, Int.reduceAdd, Int.reduceSub, Int.reduceMul, Int.reduceNeg, Int.reduceLT, Int.reduceLE, Int.reduceEq, Int.reduceToNat, reduceCtorEq, reduceIte, Nat.zero_add, Nat.add_zero, *]
  exact RC_ret rfl rfl
theorem aEqs_V (v : Vl) : aEqs [0, 0, 2] true (.ag (encV v)) (.ag (encV v)) = some (.sc (.bool false)) := by
  simp [aEqs, eqK, encV, bb]
theorem sameRow_con (r : Rw) : Con Try.prog 32 [.tr (r.map encV), .tr (r.map encV)] (.ret (.sc (.bool true))) := by
  refine con_of (by_plain_SameRow ?_)
  generalize hR : RC _ = R
  have HR := Lib.hid hR; clear hR
  simp (maxSteps := 1000000) (disch := omega) only [sh_plain_SameRow, go_sem, wrapI, wrapB, upd_is, upd_not, Nat.reduceAdd, Nat.reduceSub, Nat.reduceMul, Nat.reduceLeDiff, Nat.reduceEqDiff, Int.reduceAdd, Int.reduceSub, Int.reduceMul, Int.reduceNeg, Int.reduceLT, Int.reduceLE, Int.reduceEq, Int.reduceToNat, reduceCtorEq, reduceIte, Nat.zero_add, Nat.add_zero, *]
  intros
  refine LOOP_list r (fun i s => ∃ a b c, s = [a, b, c, .sc (.int .i64 i)]) ⟨_, _, _, rfl⟩ ?_ ?_
  · rintro i x K s' n' hx hi hi' hn ⟨a, b, c, rfl⟩ hK
    have HK := Lib.hid hK; clear hK
    simp (maxSteps := 1000000) (disch := omega) only [lb_plain_SameRow1, aEqs_V, go_sem, wrapI, wrapB, upd_is, upd_not, Nat.reduceAdd, Nat.reduceSub, Nat.reduceMul, Nat.reduceLeDiff, Nat.reduceEqDiff, Int.reduceAdd, Int.reduceSub, Int.reduceMul, Int.reduceNeg, Int.reduceLT, Int.reduceLE, Int.reduceEq, Int.reduceToNat, reduceCtorEq, reduceIte, Nat.zero_add, Nat.add_zero, *]
    intros
    exact HK.out _ _ (by omega) ⟨_, _, _, rfl⟩
  · rintro K s' n' hn ⟨a, b, c, rfl⟩
    simp (maxSteps := 1000000) (disch := omega) only [lb_plain_SameRow1, Int.lt_irrefl, go_sem, wrapI, wrapB, upd_is, upd_not, Nat.reduceAdd, Nat.reduceSub, Nat.reduceMul, Nat.reduceLeDiff, Nat.reduceEqDiff, Int.reduceAdd, Int.reduceSub, Int.reduceMul, Int.reduceNeg, Int.reduceLT, Int.reduceLE, Int.reduceEq, Int.reduceToNat, reduceCtorEq, reduceIte, Nat.zero_add, Nat.add_zero, *]
    intros
    rw [← HR.out]; exact RC_ret rfl rfl
theorem sameRows_con (l : List Rw) : Con Try.prog 34 [.tr (l.map encR), .tr (l.map encR)] (.ret (.sc (.bool true))) := by
  refine con_of (by_plain_SameRows ?_)
  generalize hR : RC _ = R
  have HR := Lib.hid hR; clear hR
  simp (maxSteps := 1000000) (disch := omega) only [sh_plain_SameRows, go_sem, wrapI, wrapB, upd_is, upd_not, Nat.reduceAdd, Nat.reduceSub, Nat.reduceMul, Nat.reduceLeDiff, Nat.reduceEqDiff, Int.reduceAdd, Int.reduceSub, Int.reduceMul, Int.reduceNeg, Int.reduceLT, Int.reduceLE, Int.reduceEq, Int.reduceToNat, reduceCtorEq, reduceIte, Nat.zero_add, Nat.add_zero, *]
  intros
  refine LOOP_list l (fun i s => ∃ a b c, s = [a, b, c, .sc (.int .i64 i)]) ⟨_, _, _, rfl⟩ ?_ ?_
  · rintro i r K s' n' hx hi hi' hn ⟨a, b, c, rfl⟩ hK
    have HK := Lib.hid hK; clear hK
    simp (maxSteps := 1000000) (disch := omega) only [lb_plain_SameRows2, encR, go_sem, wrapI, wrapB, upd_is, upd_not, Nat.reduceAdd, Nat.reduceSub, Nat.reduceMul, Nat.reduceLeDiff, Nat.reduceEqDiff, Int.reduceAdd, Int.reduceSub, Int.reduceMul, Int.reduceNeg, Int.reduceLT, Int.reduceLE, Int.reduceEq, Int.reduceToNat, reduceCtorEq, reduceIte, Nat.zero_add, Nat.add_zero, *]
    intros
    refine callD_conS (I := []) (sameRow_con r) (by simp only [List.append_nil, brwL_cons, brwL_nil, brw_tr]) rfl ?_
    simp (maxSteps := 1000000) (disch := omega) only [go_sem, wrapI, wrapB, upd_is, upd_not, Nat.reduceAdd, Nat.reduceSub, Nat.reduceMul, Nat.reduceLeDiff, Nat.reduceEqDiff, Int.reduceAdd, Int.reduceSub, Int.reduceMul, Int.reduceNeg, Int.reduceLT, Int.reduceLE, Int.reduceEq, Int.reduceToNat, reduceCtorEq, reduceIte, Nat.zero_add, Nat.add_zero, *]
    intro n3 hn3
    exact HK.out _ _ (by omega) ⟨_, _, _, rfl⟩
  · rintro K s' n' hn ⟨a, b, c, rfl⟩
    simp (maxSteps := 1000000) (disch := omega) only [lb_plain_SameRows2, Int.lt_irrefl, go_sem, wrapI, wrapB, upd_is, upd_not, Nat.reduceAdd, Nat.reduceSub, Nat.reduceMul, Nat.reduceLeDiff, Nat.reduceEqDiff, Int.reduceAdd, Int.reduceSub, Int.reduceMul, Int.reduceNeg, Int.reduceLT, Int.reduceLE, Int.reduceEq, Int.reduceToNat, reduceCtorEq, reduceIte, Nat.zero_add, Nat.add_zero, *]
    intros
    rw [← HR.out]; exact RC_ret rfl rfl
end Go.Proofs.Ytlhnncmflnjinaa
set_option maxRecDepth 100000
namespace Go.Proofs.Ytlhnncmflnjinaa
open Go Go.RowKit Am
attribute [-go_sem] guardP_if guardK_if guardD_if COND_bool
attribute [local go_sem low] guardP_if guardK_if guardD_if COND_bool

theorem frz_keep (σ : Hp) : ∀ (I : List Nat) (τ : Hp) (j : Nat), j ∉ I → applyW τ (frz σ I) j = τ j
  | [], τ, j, _ => rfl
  | i :: I, τ, j, h => by
    simp only [List.mem_cons, not_or] at h
    rw [frz, applyW, frz_keep σ I _ j h.2, upd_not h.1]
theorem wr_keep {r : AEnd} {σ : Hp} {I : List Nat} {j : Nat} (h : j ∉ I) : applyW σ (wrOf r σ I) j = σ j := by
  unfold wrOf
  cases r with
  | ret v =>
    simp only
    split
    · rfl
    · exact frz_keep σ I σ j h
  | pan x => rfl
/-- the same, and what follows knows of the memory that other blocks are as they were -/
theorem CALL_conK {P : Program} {g : FuncId} {caps args cs : List AV} {I : List Nat} {r : AEnd} {σ : Hp} {n : Nat} {K : AEnd → Hp → Nat → Prop} (h : Con P g cs r) (hb : brwL σ 3 (args ++ caps) = some (cs, I))
    (hk : ∀ σ', (∀ j, j ∉ I → σ' j = σ j) → K r σ' n) : CALL P (.fn g caps) args σ n K := CALL_con h hb (hk _ fun _ hj => wr_keep hj)
set_option maxHeartbeats 4000000 in
theorem rowsTwice_con (t : Tb) (l : List Rw) (r : Rw) (ht : TRg t) : Con Try.prog 7 [.ag (encT t), .tr (l.map encR), .tr (r.map encV)] (.ret (.sc (.bool true))) := by
  refine con_of (by_law09_RowsTwice ?_)
  have HO := Lib.hid (of_con t ⟨ht.bd.col.1, ht.bd.ind.1⟩)
  have H1 := Lib.hid (rinsert_con t l [r] ht)
  have H2 := Lib.hid (rinsert_con t l [r, r] ht)
  have H3 := Lib.hid (fun a => rinsert_con t a [r] ht)
  obtain ⟨hw1, hw2⟩ := twice_law t l r
  clear ht
  simp (maxSteps := 1000000) (disch := omega) only [sh_law09_RowsTwice, go_sem, wrapI, wrapB, upd_is, upd_not, Nat.reduceAdd, Nat.reduceSub, Nat.reduceMul, Nat.reduceLeDiff, Nat.reduceEqDiff, Int.reduceAdd, Int.reduceSub, Int.reduceMul, Int.reduceNeg, Int.reduceLT, Int.reduceLE, Int.reduceEq, Int.reduceToNat, reduceCtorEq, reduceIte, Nat.zero_add, Nat.add_zero, *]
  refine CALL_con0 alive9_con rfl ?_
  simp (maxSteps := 1000000) (disch := omega) only [go_sem, wrapI, wrapB, upd_is, upd_not, Nat.reduceAdd, Nat.reduceSub, Nat.reduceMul, Nat.reduceLeDiff, Nat.reduceEqDiff, Int.reduceAdd, Int.reduceSub, Int.reduceMul, Int.reduceNeg, Int.reduceLT, Int.reduceLE, Int.reduceEq, Int.reduceToNat, reduceCtorEq, reduceIte, Nat.zero_add, Nat.add_zero, *]
  refine CALL_con0 HO.out (by simp only [List.append_nil, encT_brw, brw_ag, Option.map_some, brwL_cons, brwL_nil]) ?_
  simp (maxSteps := 1000000) (disch := omega) only [go_sem, wrapI, wrapB, upd_is, upd_not, Nat.reduceAdd, Nat.reduceSub, Nat.reduceMul, Nat.reduceLeDiff, Nat.reduceEqDiff, Int.reduceAdd, Int.reduceSub, Int.reduceMul, Int.reduceNeg, Int.reduceLT, Int.reduceLE, Int.reduceEq, Int.reduceToNat, reduceCtorEq, reduceIte, Nat.zero_add, Nat.add_zero, *]
  refine CALL_conK (I := [48]) H1.out (by simp (disch := omega) only [List.append_nil, encT_brw, brw_tr, brw_ag, Option.map_some, brwL_cons, brwL_nil, brw_s, brw_em, brw_ow', upd_is, upd_not, brw_sc]; rfl) ?_
  intro σ1 hσ1
  have h16 : σ1 16 = some (.c ⟨4, [encT t], true, false⟩) := by rw [hσ1 16 (by simp)]; simp (disch := omega) only [upd_is, upd_not]
  have HS1 := Lib.hid hσ1; clear hσ1
  generalize insertF t l [r] = x at *
  by_cases h : x.2 = 0
  · obtain ⟨h2, h3⟩ := hw2 h
    rw [h2] at H2
    have H3' := Lib.hid (H3.out x.1)
    rw [h3] at H3'
    clear h2 h3 hw1 hw2 H3
    simp (maxSteps := 1000000) (disch := omega) only [go_sem, wrapI, wrapB, upd_is, upd_not, Nat.reduceAdd, Nat.reduceSub, Nat.reduceMul, Nat.reduceLeDiff, Nat.reduceEqDiff, Int.reduceAdd, Int.reduceSub, Int.reduceMul, Int.reduceNeg, Int.reduceLT, Int.reduceLE, Int.reduceEq, Int.reduceToNat, reduceCtorEq, reduceIte, Nat.zero_add, Nat.add_zero, *]
    refine CALL_conK (I := [64]) H2.out (by simp (disch := omega) only [List.append_nil, encT_brw, brw_tr, brw_ag, Option.map_some, brwL_cons, brwL_nil, brw_s, brw_em, brw_ow', upd_is, upd_not, brw_sc]; rfl) ?_
    intro σ2 hσ2
    have h16' : σ2 16 = some (.c ⟨4, [encT t], true, false⟩) := by rw [hσ2 16 (by simp)]; simp (disch := omega) only [upd_is, upd_not, h16]
    clear hσ2 h16
    simp (maxSteps := 1000000) (disch := omega) only [go_sem, wrapI, wrapB, upd_is, upd_not, Nat.reduceAdd, Nat.reduceSub, Nat.reduceMul, Nat.reduceLeDiff, Nat.reduceEqDiff, Int.reduceAdd, Int.reduceSub, Int.reduceMul, Int.reduceNeg, Int.reduceLT, Int.reduceLE, Int.reduceEq, Int.reduceToNat, reduceCtorEq, reduceIte, Nat.zero_add, Nat.add_zero, *]
    refine CALL_con0 (num9_con _) rfl ?_
    simp (maxSteps := 1000000) (disch := omega) only [go_sem, wrapI, wrapB, upd_is, upd_not, Nat.reduceAdd, Nat.reduceSub, Nat.reduceMul, Nat.reduceLeDiff, Nat.reduceEqDiff, Int.reduceAdd, Int.reduceSub, Int.reduceMul, Int.reduceNeg, Int.reduceLT, Int.reduceLE, Int.reduceEq, Int.reduceToNat, reduceCtorEq, reduceIte, Nat.zero_add, Nat.add_zero, *]
    refine CALL_conK (I := [80]) H3'.out (by simp (disch := omega) only [List.append_nil, encT_brw, brw_tr, brw_ag, Option.map_some, brwL_cons, brwL_nil, brw_s, brw_em, brw_ow', upd_is, upd_not, brw_sc]; rfl) ?_
    intro σ3 hσ3
    clear hσ3
    simp (maxSteps := 1000000) (disch := omega) only [go_sem, wrapI, wrapB, upd_is, upd_not, Nat.reduceAdd, Nat.reduceSub, Nat.reduceMul, Nat.reduceLeDiff, Nat.reduceEqDiff, Int.reduceAdd, Int.reduceSub, Int.reduceMul, Int.reduceNeg, Int.reduceLT, Int.reduceLE, Int.reduceEq, Int.reduceToNat, reduceCtorEq, reduceIte, Nat.zero_add, Nat.add_zero, *]
    refine CALL_con0 (num9_con _) rfl ?_
    simp (maxSteps := 1000000) (disch := omega) only [go_sem, wrapI, wrapB, upd_is, upd_not, Nat.reduceAdd, Nat.reduceSub, Nat.reduceMul, Nat.reduceLeDiff, Nat.reduceEqDiff, Int.reduceAdd, Int.reduceSub, Int.reduceMul, Int.reduceNeg, Int.reduceLT, Int.reduceLE, Int.reduceEq, Int.reduceToNat, reduceCtorEq, reduceIte, Nat.zero_add, Nat.add_zero, *]
    refine CALL_con0 (num9_con _) rfl ?_
    have c0 : ((0 : Nat) : Int) = 0 := rfl
    simp (maxSteps := 1000000) (disch := omega) only [List.map_nil, decide_true, go_sem, wrapI, wrapB, upd_is, upd_not, Nat.reduceAdd, Nat.reduceSub, Nat.reduceMul, Nat.reduceLeDiff, Nat.reduceEqDiff, Int.reduceAdd, Int.reduceSub, Int.reduceMul, Int.reduceNeg, Int.reduceLT, Int.reduceLE, Int.reduceEq, Int.reduceToNat, reduceCtorEq, reduceIte, Nat.zero_add, Nat.add_zero, *]
    exact RC_ret rfl rfl
  · have h2 := hw1 h
    rw [h2] at H2
    clear h2 hw1 hw2 H3
    simp (maxSteps := 1000000) (disch := omega) only [go_sem, wrapI, wrapB, upd_is, upd_not, Nat.reduceAdd, Nat.reduceSub, Nat.reduceMul, Nat.reduceLeDiff, Nat.reduceEqDiff, Int.reduceAdd, Int.reduceSub, Int.reduceMul, Int.reduceNeg, Int.reduceLT, Int.reduceLE, Int.reduceEq, Int.reduceToNat, reduceCtorEq, reduceIte, Nat.zero_add, Nat.add_zero, *]
    refine CALL_conK (I := [64]) H2.out (by simp (disch := omega) only [List.append_nil, encT_brw, brw_tr, brw_ag, Option.map_some, brwL_cons, brwL_nil, brw_s, brw_em, brw_ow', upd_is, upd_not, brw_sc]; rfl) ?_
    intro σ2 hσ2
    have h16' : σ2 16 = some (.c ⟨4, [encT t], true, false⟩) := by rw [hσ2 16 (by simp)]; simp (disch := omega) only [upd_is, upd_not, h16]
    clear hσ2 h16
    simp (maxSteps := 1000000) (disch := omega) only [go_sem, wrapI, wrapB, upd_is, upd_not, Nat.reduceAdd, Nat.reduceSub, Nat.reduceMul, Nat.reduceLeDiff, Nat.reduceEqDiff, Int.reduceAdd, Int.reduceSub, Int.reduceMul, Int.reduceNeg, Int.reduceLT, Int.reduceLE, Int.reduceEq, Int.reduceToNat, reduceCtorEq, reduceIte, Nat.zero_add, Nat.add_zero, *]
    refine CALL_con0 (num9_con _) rfl ?_
    have c0 : ((0 : Nat) : Int) = 0 := rfl
    simp (maxSteps := 1000000) (disch := omega) only [decide_true, go_sem, wrapI, wrapB, upd_is, upd_not, Nat.reduceAdd, Nat.reduceSub, Nat.reduceMul, Nat.reduceLeDiff, Nat.reduceEqDiff, Int.reduceAdd, Int.reduceSub, Int.reduceMul, Int.reduceNeg, Int.reduceLT, Int.reduceLE, Int.reduceEq, Int.reduceToNat, reduceCtorEq, reduceIte, Nat.zero_add, Nat.add_zero, *]
    exact RC_ret rfl rfl
theorem insert_err {t : Tb} {l rows : List Rw} (h : (insertF t l rows).2 ≠ 0) : (insertF t l rows).1 = [] := by
  unfold insertF changeF at h ⊢
  split
  · rfl
  · rename_i h1
    rw [if_neg h1] at h
    split
    · rfl
    · rename_i h2; rw [if_neg h2] at h; exact absurd rfl h
theorem takeV (l : List Vl) : (l.map encV).take l.length = l.map encV := List.take_of_length_le (by simp)
theorem takeV' {l : List Vl} {n : Nat} (h : l.length ≤ n) : (l.map encV).take n = l.map encV := List.take_of_length_le (by simpa using h)
set_option maxHeartbeats 16000000 in
theorem rowsMay_con (t : Tb) (l more : List Rw) (ht : TRg t) : Con Try.prog 8 [.ag (encT t), .tr (l.map encR), .tr (more.map encR)] (.ret (.sc (.bool true))) := by
  refine con_of (by_law09_RowsMay ?_)
  generalize hR : RC _ = R
  have HR := Lib.hid hR; clear hR
  have HO := Lib.hid (of_con t ⟨ht.bd.col.1, ht.bd.ind.1⟩)
  have H1 := Lib.hid (rinsert_con t l more ht)
  have HC := Lib.hid (fun a => rcheck_con t a ht)
  have HF := Lib.hid (fun a x => rfind_con t a x ht)
  have HD := Lib.hid (fun a ks => rdelete_con t a ks ht)
  clear ht
  simp (maxSteps := 1000000) (disch := omega) only [sh_law09_RowsMay, go_sem, wrapI, wrapB, upd_is, upd_not, Nat.reduceAdd, Nat.reduceSub, Nat.reduceMul, Nat.reduceLeDiff, Nat.reduceEqDiff, Int.reduceAdd, Int.reduceSub, Int.reduceMul, Int.reduceNeg, Int.reduceLT, Int.reduceLE, Int.reduceEq, Int.reduceToNat, reduceCtorEq, reduceIte, Nat.zero_add, Nat.add_zero, *]
  refine CALL_con0 alive9_con rfl ?_
  simp (maxSteps := 1000000) (disch := omega) only [go_sem, wrapI, wrapB, upd_is, upd_not, Nat.reduceAdd, Nat.reduceSub, Nat.reduceMul, Nat.reduceLeDiff, Nat.reduceEqDiff, Int.reduceAdd, Int.reduceSub, Int.reduceMul, Int.reduceNeg, Int.reduceLT, Int.reduceLE, Int.reduceEq, Int.reduceToNat, reduceCtorEq, reduceIte, Nat.zero_add, Nat.add_zero, *]
  refine CALL_con0 HO.out (by simp only [List.append_nil, encT_brw, brw_ag, Option.map_some, brwL_cons, brwL_nil]) ?_
  simp (maxSteps := 1000000) (disch := omega) only [go_sem, wrapI, wrapB, upd_is, upd_not, Nat.reduceAdd, Nat.reduceSub, Nat.reduceMul, Nat.reduceLeDiff, Nat.reduceEqDiff, Int.reduceAdd, Int.reduceSub, Int.reduceMul, Int.reduceNeg, Int.reduceLT, Int.reduceLE, Int.reduceEq, Int.reduceToNat, reduceCtorEq, reduceIte, Nat.zero_add, Nat.add_zero, *]
  refine CALL_con0 H1.out (by simp only [List.append_nil, encT_brw, brw_tr, brw_ag, Option.map_some, brwL_cons, brwL_nil]) ?_
  by_cases h : (insertF t l more).2 = 0
  · obtain ⟨m1, m2, m3, m4, m5⟩ := may_law t l more h
    have hO := rowsF_zero.1 m1
    have hlen : l.length + more.length ≤ 256 := by have := hO.len; omega
    have HC1 := Lib.hid (HC.out (insertF t l more).1)
    have HF1 := Lib.hid (HF.out (insertF t l more).1)
    have HD1 := Lib.hid (HD.out (insertF t l more).1 (more.map (kv t.key.toNat)))
    obtain ⟨k0, k1⟩ := may_key hO.may
    rw [m5] at HD1
    rw [m1] at HC1
    simp only [m1, ne_eq, not_true_eq_false, if_false] at HF1
    generalize insertF t l more = x at *
    have HM3 := Lib.hid m3
    have HM4 := Lib.hid m4
    clear m1 m3 m4 m5 HC HF HD H1 hO
    have hs : ((l.length : Int) + more.length) = x.1.length := by omega
    have HX := Lib.hid m2; clear m2
    simp (maxSteps := 1000000) (disch := omega) only [go_sem, wrapI, wrapB, upd_is, upd_not, Nat.reduceAdd, Nat.reduceSub, Nat.reduceMul, Nat.reduceLeDiff, Nat.reduceEqDiff, Int.reduceAdd, Int.reduceSub, Int.reduceMul, Int.reduceNeg, Int.reduceLT, Int.reduceLE, Int.reduceEq, Int.reduceToNat, reduceCtorEq, reduceIte, Nat.zero_add, Nat.add_zero, *]
    refine CALL_con0 (num9_con _) rfl ?_
    simp (maxSteps := 1000000) (disch := omega) only [go_sem, wrapI, wrapB, upd_is, upd_not, Nat.reduceAdd, Nat.reduceSub, Nat.reduceMul, Nat.reduceLeDiff, Nat.reduceEqDiff, Int.reduceAdd, Int.reduceSub, Int.reduceMul, Int.reduceNeg, Int.reduceLT, Int.reduceLE, Int.reduceEq, Int.reduceToNat, reduceCtorEq, reduceIte, Nat.zero_add, Nat.add_zero, *]
    refine CALL_con0 HC1.out (by simp only [List.append_nil, encT_brw, brw_tr, brw_ag, Option.map_some, brwL_cons, brwL_nil]) ?_
    simp (maxSteps := 1000000) (disch := omega) only [go_sem, wrapI, wrapB, upd_is, upd_not, Nat.reduceAdd, Nat.reduceSub, Nat.reduceMul, Nat.reduceLeDiff, Nat.reduceEqDiff, Int.reduceAdd, Int.reduceSub, Int.reduceMul, Int.reduceNeg, Int.reduceLT, Int.reduceLE, Int.reduceEq, Int.reduceToNat, reduceCtorEq, reduceIte, Nat.zero_add, Nat.add_zero, *]
    refine CALL_con0 (num9_con _) rfl ?_
    simp (maxSteps := 1000000) (disch := omega) only [go_sem, wrapI, wrapB, upd_is, upd_not, Nat.reduceAdd, Nat.reduceSub, Nat.reduceMul, Nat.reduceLeDiff, Nat.reduceEqDiff, Int.reduceAdd, Int.reduceSub, Int.reduceMul, Int.reduceNeg, Int.reduceLT, Int.reduceLE, Int.reduceEq, Int.reduceToNat, reduceCtorEq, reduceIte, Nat.zero_add, Nat.add_zero, *]
    refine LOOP_listM more (fun i s σ' n' => (∃ u1 u2 u3 u4 u5 u6 id, s = [u1, u2, u3, u4, u5, u6, .sc (.bool false), .ow id 3 0 i, .sc (.int .i64 i)] ∧ σ' id = some (.c ⟨3, ((more.map (kv t.key.toNat)).take i).map encV, true, true⟩) ∧ id < n' ∧ 16 < id) ∧ σ' 0 = some (.c ⟨4, [encT t], true, false⟩) ∧ σ' 16 = some (.c ⟨4, [encT t], true, false⟩)) ?_ ?_ ?_
    · exact ⟨_, _, 64, .emp _ _ 48 7 3 true rfl, by omega, rfl, ⟨⟨_, _, _, _, _, _, 48, rfl, upd_is rfl, by omega, by omega⟩, by simp (disch := omega) only [upd_is, upd_not], by simp (disch := omega) only [upd_is, upd_not]⟩⟩
    · rintro i r K s' σ' n2 hx hi hi' hn2 ⟨⟨u1, u2, u3, u4, u5, u6, id, rfl, hb, hid, hid16⟩, h0, h16⟩ hK
      have HK := Lib.hid hK; clear hK
      have hmem := List.mem_of_getElem? hx
      have hrl : t.key < r.length := by have := fits_len (HM4.out r hmem); omega
      have hkx := kv_at k0 hrl
      obtain ⟨hy1, hy2⟩ := HM3.out r hmem
      have HF2 := Lib.hid (HF1.out (kv t.key.toNat r))
      rw [hy1] at HF2
      have hnx : (more.map (kv t.key.toNat)).take (i + 1) = (more.map (kv t.key.toNat)).take i ++ [kv t.key.toNat r] := by
        rw [List.take_add_one, List.getElem?_map, hx]; rfl
      have HNX := Lib.hid hnx; clear hnx
      have hln : (((more.map (kv t.key.toNat)).take i).map encV).length = i := by simp; omega
      obtain ⟨kr, hkr⟩ : ∃ kr, kr = kv t.key.toNat r := ⟨_, rfl⟩
      rw [← hkr] at hkx hy2 HF2 HNX
      clear hkr hy1
      generalize at_ t.key.toNat x.1 kr = p at hy2 HF2
      have hn0 : ¬ n2 + 128 = 0 := by omega
      have hn16 : ¬ n2 + 128 = 16 := by omega
      have hnid : ¬ n2 + 128 = id := by omega
      simp (maxSteps := 1000000) (disch := omega) only [lb_law09_RowsMay7, encT, go_sem, wrapI, wrapB, upd_is, upd_not, Nat.reduceAdd, Nat.reduceSub, Nat.reduceMul, Nat.reduceLeDiff, Nat.reduceEqDiff, Int.reduceAdd, Int.reduceSub, Int.reduceMul, Int.reduceNeg, Int.reduceLT, Int.reduceLE, Int.reduceEq, Int.reduceToNat, reduceCtorEq, reduceIte, Nat.zero_add, Nat.add_zero, *]
      intro _
      refine ⟨fun q hq => by omega, fun n3 hn3 => ?_⟩
      refine CALL_con0 HF2.out (by simp only [List.append_nil, encV_brw, brw_tr, brw_ag, brw_s, brw_sc, Option.map_some, brwL_cons, brwL_nil, encT]) ?_
      have hn3b : ¬ n3 + 16 = id := by omega
      simp (maxSteps := 1000000) (disch := omega) only [go_sem, wrapI, wrapB, upd_is, upd_not, Nat.reduceAdd, Nat.reduceSub, Nat.reduceMul, Nat.reduceLeDiff, Nat.reduceEqDiff, Int.reduceAdd, Int.reduceSub, Int.reduceMul, Int.reduceNeg, Int.reduceLT, Int.reduceLE, Int.reduceEq, Int.reduceToNat, reduceCtorEq, reduceIte, Nat.zero_add, Nat.add_zero, *]
      refine callD_conS (I := []) (num9_con 0) rfl rfl ?_
      have HSR := Lib.hid (sameRow_con r)
      simp (maxSteps := 1000000) (disch := omega) only [encR, go_sem, wrapI, wrapB, upd_is, upd_not, Nat.reduceAdd, Nat.reduceSub, Nat.reduceMul, Nat.reduceLeDiff, Nat.reduceEqDiff, Int.reduceAdd, Int.reduceSub, Int.reduceMul, Int.reduceNeg, Int.reduceLT, Int.reduceLE, Int.reduceEq, Int.reduceToNat, reduceCtorEq, reduceIte, Nat.zero_add, Nat.add_zero, *]
      refine callD_conS (I := []) HSR.out (by simp only [List.append_nil, brw_tr, brwL_cons, brwL_nil]) rfl ?_
      simp (maxSteps := 1000000) (disch := omega) only [go_sem, wrapI, wrapB, upd_is, upd_not, Nat.reduceAdd, Nat.reduceSub, Nat.reduceMul, Nat.reduceLeDiff, Nat.reduceEqDiff, Int.reduceAdd, Int.reduceSub, Int.reduceMul, Int.reduceNeg, Int.reduceLT, Int.reduceLE, Int.reduceEq, Int.reduceToNat, reduceCtorEq, reduceIte, Nat.zero_add, Nat.add_zero, *]
      intro n4 hn4
      have e1 : ¬ id = n4 := by omega
      have e2 : ¬ id = n4 + 16 := by omega
      have e3 : ¬ id = n2 + 128 := by omega
      have e4 : (i + 1) * 32 ≤ 140737488355328 := by omega
      simp (maxSteps := 1000000) (disch := omega) only [go_sem, wrapI, wrapB, upd_is, upd_not, Nat.reduceAdd, Nat.reduceSub, Nat.reduceMul, Nat.reduceLeDiff, Nat.reduceEqDiff, Int.reduceAdd, Int.reduceSub, Int.reduceMul, Int.reduceNeg, Int.reduceLT, Int.reduceLE, Int.reduceEq, Int.reduceToNat, reduceCtorEq, reduceIte, Nat.zero_add, Nat.add_zero, *]
      refine HK.out _ _ _ (.refl ⟨⟨_, _, _, _, _, _, n4 + 16, rfl, ?_, by omega, by omega⟩, ?_, ?_⟩)
      · rw [HNX.out, List.map_append]
        exact upd_is rfl
      · simp (disch := omega) only [upd_is, upd_not]; exact h0
      · simp (disch := omega) only [upd_is, upd_not]; exact h16
    · rintro K s' σ' n2 hn2 ⟨⟨u1, u2, u3, u4, u5, u6, id, rfl, hb, hid, hid16⟩, h0, h16⟩
      rw [List.take_of_length_le (by simp)] at hb
      simp (maxSteps := 1000000) (disch := omega) only [lb_law09_RowsMay7, Int.lt_irrefl, go_sem, wrapI, wrapB, upd_is, upd_not, Nat.reduceAdd, Nat.reduceSub, Nat.reduceMul, Nat.reduceLeDiff, Nat.reduceEqDiff, Int.reduceAdd, Int.reduceSub, Int.reduceMul, Int.reduceNeg, Int.reduceLT, Int.reduceLE, Int.reduceEq, Int.reduceToNat, reduceCtorEq, reduceIte, Nat.zero_add, Nat.add_zero, *]
      intro _
      have hlm : (more.map (kv t.key.toNat)).length = more.length := by simp
      have hbw : brw σ' 3 (.ow id 3 0 more.length) = some (.tr ((more.map (kv t.key.toNat)).map encV), [id]) := by
        rw [brw_ow', hb]
        simp only
        rw [if_pos (by simp), List.drop_zero, takeV' (by omega)]
      refine CALL_conK (I := [id]) HD1.out (by simp only [List.append_nil, encT_brw, brw_tr, brw_ag, Option.map_some, brwL_cons, brwL_nil, hbw]; rfl) ?_
      intro σ2 hσ2
      clear hσ2 hb hbw
      simp (maxSteps := 1000000) (disch := omega) only [go_sem, wrapI, wrapB, upd_is, upd_not, Nat.reduceAdd, Nat.reduceSub, Nat.reduceMul, Nat.reduceLeDiff, Nat.reduceEqDiff, Int.reduceAdd, Int.reduceSub, Int.reduceMul, Int.reduceNeg, Int.reduceLT, Int.reduceLE, Int.reduceEq, Int.reduceToNat, reduceCtorEq, reduceIte, Nat.zero_add, Nat.add_zero, *]
      refine CALL_con0 (num9_con 0) rfl ?_
      simp (maxSteps := 1000000) (disch := omega) only [go_sem, wrapI, wrapB, upd_is, upd_not, Nat.reduceAdd, Nat.reduceSub, Nat.reduceMul, Nat.reduceLeDiff, Nat.reduceEqDiff, Int.reduceAdd, Int.reduceSub, Int.reduceMul, Int.reduceNeg, Int.reduceLT, Int.reduceLE, Int.reduceEq, Int.reduceToNat, reduceCtorEq, reduceIte, Nat.zero_add, Nat.add_zero, *]
      refine CALL_con0 (sameRows_con l) (by simp only [List.append_nil, brw_tr, brwL_cons, brwL_nil]) ?_
      simp (maxSteps := 1000000) (disch := omega) only [go_sem, wrapI, wrapB, upd_is, upd_not, Nat.reduceAdd, Nat.reduceSub, Nat.reduceMul, Nat.reduceLeDiff, Nat.reduceEqDiff, Int.reduceAdd, Int.reduceSub, Int.reduceMul, Int.reduceNeg, Int.reduceLT, Int.reduceLE, Int.reduceEq, Int.reduceToNat, reduceCtorEq, reduceIte, Nat.zero_add, Nat.add_zero, *]
      rw [← HR.out]
      exact RC_ret rfl rfl
  · have he := insert_err h
    rw [he] at H1
    rw [he]
    simp (maxSteps := 1000000) (disch := omega) only [go_sem, wrapI, wrapB, upd_is, upd_not, Nat.reduceAdd, Nat.reduceSub, Nat.reduceMul, Nat.reduceLeDiff, Nat.reduceEqDiff, Int.reduceAdd, Int.reduceSub, Int.reduceMul, Int.reduceNeg, Int.reduceLT, Int.reduceLE, Int.reduceEq, Int.reduceToNat, reduceCtorEq, reduceIte, Nat.zero_add, Nat.add_zero, *]
    refine CALL_con0 (num9_con _) rfl ?_
    have c0 : ((0 : Nat) : Int) = 0 := rfl
    simp (maxSteps := 1000000) (disch := omega) only [List.map_nil, decide_true, go_sem, wrapI, wrapB, upd_is, upd_not, Nat.reduceAdd, Nat.reduceSub, Nat.reduceMul, Nat.reduceLeDiff, Nat.reduceEqDiff, Int.reduceAdd, Int.reduceSub, Int.reduceMul, Int.reduceNeg, Int.reduceLT, Int.reduceLE, Int.reduceEq, Int.reduceToNat, reduceCtorEq, reduceIte, Nat.zero_add, Nat.add_zero, *]
    intros
    rw [← HR.out]
    exact RC_ret rfl rfl
end Go.Proofs.Ytlhnncmflnjinaa
