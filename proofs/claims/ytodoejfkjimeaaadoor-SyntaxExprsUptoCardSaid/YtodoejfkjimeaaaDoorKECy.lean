/- Packed by a program of this repo: Cy. -/
import Derived.Test.YtodoejfkjimeaaaDoorKECx
set_option linter.unusedSimpArgs false
set_option linter.unusedVariables false
set_option maxRecDepth 100000
namespace Go.Proofs.YtodoejfkjimeaaaDoor
open Go Go.RowKit Am

theorem ixL_here {α : Type} {q : α → Bool} {xs : List α} {i : Nat} {x : α} (hx : xs[i]? = some x) (h0 : (xs.take i).any q = false) (h : q x = true) : ixL q xs = i := by
  obtain ⟨hi, rfl⟩ := List.getElem?_eq_some_iff.1 hx
  refine ixL_at q xs i hi (fun j hj => ?_) h
  rw [List.any_eq_false] at h0
  have := h0 xs[j] (List.mem_iff_getElem?.2 ⟨j, by rw [List.getElem?_take, if_pos hj]; exact List.getElem?_eq_getElem (by omega)⟩)
  simpa using this
theorem ixL_no {α : Type} {q : α → Bool} {xs : List α} (h0 : xs.any q = false) : ixL q xs = -1 := by
  unfold ixL; rw [h0]; rfl
theorem ixCol_con (g : FuncId) (caps : List AV) (q : Cl → Bool) (xs : List Cl) (hc : ∀ σ, brwL σ 6 caps = some (caps, [])) (h : ∀ x ∈ xs, Con Tryd.prog g ([.ag (encC x)] ++ caps) (.ret (.sc (.bool (q x))))) :
    Con Tryd.prog 120 [.tr (xs.map encC), .fn g caps] (.ret (.sc (.int .i64 (ixL q xs)))) := by
  refine con_of (by_slices_IndexFunc_lapi_Column_api_Column ?_)
  have H := Lib.hid h; clear h
  have HC := Lib.hid hc; clear hc
  simp (contextual := true) (maxSteps := 1000000) (disch := omega) only [sh_slices_IndexFunc_lapi_Column_api_Column, go_sem, wrapI, wrapB, upd_is, upd_not, Nat.reduceAdd, Nat.reduceSub, Nat.reduceMul, Nat.reduceLeDiff, Nat.reduceEqDiff, Int.reduceAdd, Int.reduceSub, Int.reduceMul, Int.reduceNeg, Int.reduceLT, Int.reduceLE, Int.reduceEq, Int.reduceToNat, reduceCtorEq, reduceIte, Nat.zero_add, Nat.add_zero, *]
  intro hl
  refine LOOP_list xs (fun i s => (xs.take i).any q = false ∧ ∃ a b c d, s = [a, b, c, d, .sc (.int .i64 i)]) ⟨rfl, _, _, _, _, rfl⟩ ?_ ?_
  · rintro i x K s' n' hx hi hi' hn ⟨h0, a, b, c, d, rfl⟩ hK
    have HK := Lib.hid hK; clear hK
    have HX := Lib.hid hx
    simp (contextual := true) (maxSteps := 1000000) (disch := omega) only [lb_slices_IndexFunc_lapi_Column_api_Column2, encC, go_sem, wrapI, wrapB, upd_is, upd_not, Nat.reduceAdd, Nat.reduceSub, Nat.reduceMul, Nat.reduceLeDiff, Nat.reduceEqDiff, Int.reduceAdd, Int.reduceSub, Int.reduceMul, Int.reduceNeg, Int.reduceLT, Int.reduceLE, Int.reduceEq, Int.reduceToNat, reduceCtorEq, reduceIte, Nat.zero_add, Nat.add_zero, *]
    refine CALL_con0 (H.out x (List.mem_of_getElem? hx)) (by simp only [encC, List.cons_append, List.nil_append, brwL_cons, brw_ag, brw_s, brw_sc, brwL_nil, HC.out, Option.map_some, List.append_nil]) ?_
    cases hq : q x with
    | true =>
      simp (contextual := true) (maxSteps := 1000000) (disch := omega) only [go_sem, wrapI, wrapB, upd_is, upd_not, Nat.reduceAdd, Nat.reduceSub, Nat.reduceMul, Nat.reduceLeDiff, Nat.reduceEqDiff, Int.reduceAdd, Int.reduceSub, Int.reduceMul, Int.reduceNeg, Int.reduceLT, Int.reduceLE, Int.reduceEq, Int.reduceToNat, reduceCtorEq, reduceIte, Nat.zero_add, Nat.add_zero, *]
      exact RC_ret rfl (by rw [ixL_here hx h0 hq])
    | false =>
      simp (contextual := true) (maxSteps := 1000000) (disch := omega) only [go_sem, wrapI, wrapB, upd_is, upd_not, Nat.reduceAdd, Nat.reduceSub, Nat.reduceMul, Nat.reduceLeDiff, Nat.reduceEqDiff, Int.reduceAdd, Int.reduceSub, Int.reduceMul, Int.reduceNeg, Int.reduceLT, Int.reduceLE, Int.reduceEq, Int.reduceToNat, reduceCtorEq, reduceIte, Nat.zero_add, Nat.add_zero, *]
      exact HK.out _ _ (Nat.le_refl _) ⟨by rw [any_take hx, h0, hq]; rfl, _, _, _, _, rfl⟩
  · rintro K s' n' hn ⟨h0, a, b, c, d, rfl⟩
    rw [List.take_length] at h0
    simp (contextual := true) (maxSteps := 1000000) (disch := omega) only [lb_slices_IndexFunc_lapi_Column_api_Column2, go_sem, wrapI, wrapB, upd_is, upd_not, Nat.reduceAdd, Nat.reduceSub, Nat.reduceMul, Nat.reduceLeDiff, Nat.reduceEqDiff, Int.reduceAdd, Int.reduceSub, Int.reduceMul, Int.reduceNeg, Int.reduceLT, Int.reduceLE, Int.reduceEq, Int.reduceToNat, reduceCtorEq, reduceIte, Nat.zero_add, Nat.add_zero, *]
    exact RC_ret rfl (by rw [ixL_no h0])
end Go.Proofs.YtodoejfkjimeaaaDoor
