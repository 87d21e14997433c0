/- Packed by a program of this repo: St. -/
import Derived.Test.YtodoejfkjimeaaaDoorKPSs
set_option linter.unusedSimpArgs false
set_option linter.unusedVariables false
set_option maxRecDepth 100000
namespace Go.Proofs.YtodoejfkjimeaaaDoor
open Go Go.RowKit Am
attribute [-go_sem] guardP_if guardK_if guardD_if COND_bool
attribute [local go_sem low] guardP_if guardK_if guardD_if COND_bool
theorem goOver_mono {f g : Ep → Nat → Int × Nat} (h : ∀ e c c', c' ≤ c → (f e c).1 = 0 → (g e c').1 = 0 ∧ (g e c').2 ≤ (f e c).2) : ∀ (l : List Ep) (c c' : Nat), c' ≤ c → (goOver f l c).1 = 0 → (goOver g l c').1 = 0 ∧ (goOver g l c').2 ≤ (goOver f l c).2
  | [], c, c', hc, _ => ⟨rfl, hc⟩
  | a :: l, c, c', hc, h0 => by
    simp only [goOver] at h0 ⊢
    split at h0
    · rename_i h1
      obtain ⟨h2, h3⟩ := h a c c' hc h1
      rw [if_pos h1, if_pos h2]
      exact goOver_mono h l _ _ h3 h0
    · rename_i h1; exact absurd h0 h1
theorem walk_mono : ∀ (k k' : Nat) (e : Ep) (c c' : Nat), k ≤ k' → c' ≤ c → (walkF k e c).1 = 0 → (walkF k' e c').1 = 0 ∧ (walkF k' e c').2 ≤ (walkF k e c).2
  | 0, _, e, c, _, _, _, h => by simp [walkF] at h
  | k + 1, 0, _, _, _, h, _, _ => by omega
  | k + 1, k' + 1, e, c, c', hk, hc, h => by
    simp only [walkF] at h ⊢
    split at h
    · simp at h
    · split at h
      · simp at h
      · rename_i h1 h2
        rw [if_neg (show ¬ 64 ≤ c' by omega), if_neg h2, if_neg h1, if_neg h2]
        exact goOver_mono (fun e c c' hc h => walk_mono k k' e c c' (by omega) hc h) _ _ _ (by omega) h
theorem goOver_mem {f : Ep → Nat → Int × Nat} : ∀ (l : List Ep) (c : Nat), (goOver f l c).1 = 0 → ∀ a ∈ l, ∃ c', (f a c').1 = 0
  | [], _, _, a, ha => by cases ha
  | b :: l, c, h, a, ha => by
    simp only [goOver] at h
    split at h
    · rename_i h1
      rcases List.mem_cons.1 ha with rfl | ha
      · exact ⟨_, h1⟩
      · exact goOver_mem l _ h a ha
    · rename_i h1; exact absurd h h1
theorem walk_argK {k : Nat} {e a : Ep} {c : Nat} (h : (walkF (k + 1) e c).1 = 0) (ha : a ∈ e.args) : (walkF (k + 1) a 0).1 = 0 := by
  rw [walkF] at h
  split at h
  · simp at h
  · split at h
    · simp at h
    · obtain ⟨c, hc⟩ := goOver_mem _ _ h a ha
      exact (walk_mono k (k + 1) a c 0 (by omega) (by omega) hc).1
theorem walk_arg {e a : Ep} (h : (walkF 12 e 0).1 = 0) (ha : a ∈ e.args) : (walkF 12 a 0).1 = 0 := walk_argK (k := 11) h ha
theorem part_args {e : Ep} (h : (walkF 12 e 0).1 = 0) : argsN e.op = ((e.args.length : Int), true) := by
  have h := (walk_ok 12 e 0 h).1
  simp only [partOk, Bool.and_eq_true, decide_eq_true_eq] at h
  exact Prod.ext h.1.2 h.1.1
theorem inner4 {s t p q : Tx} (h : s = p ++ t ++ q) (hq : 1 ≤ q.length) (hs : s.length ≤ 17000000000) (R : AEnd → Hp → Nat → Prop) (s14 : List AV) (K14 : List AV → Hp → Nat → Prop) (v18 v26 v35 x0 : AV) (σ : Hp) (n i : Nat)
    (h9 : s14.getD 9 .any = .sc (.int .i64 i)) (hi : i ≤ 1000) (hK : ∀ a b c d n', n ≤ n' → K14 [v18, .s t, v26, v35, a, b, c, d, s14.getD 8 .any, .sc (.int .i64 (i + 1 : Nat))] σ n') :
    LOOP (lb_law04_SyntaxParts1 (.s t) (.s s) R s14 K14 v18 v26 v35) [x0, .sc (.bool false), .sc (.int .i64 0)] σ n := by
  have hlen : s.length = p.length + t.length + q.length := by rw [h]; simp only [List.length_append]
  refine LOOP_still (s.length - t.length + 1) (fun k st => ∃ a, st = [a, .sc (.bool (inF s t k)), .sc (.int .i64 k)]) ⟨_, rfl⟩ ?_
  rintro k K st n' hn hk - ⟨a, rfl⟩ hKK
  have hin := fun (hk : p.length < k) => in_of h (n := k) hk
  have HIN := Lib.hid hin; clear hin
  have HK := Lib.hid hK; clear hK
  have HKK := Lib.hid hKK; clear hKK
  have H9 := Lib.hid h9; clear h9
  have hst : inF s t (k + 1) = (inF s t k || decide ((s.drop k).take t.length = t)) := rfl
  have HST := Lib.hid hst; clear hst h
  have hb : inF s t k = true ∨ inF s t k = false := by cases inF s t k <;> simp
  have hw : IntKind.i64.wrap ((k : Int) + (t.length : Int)) = (k : Int) + (t.length : Int) := wrapI (by omega) (by omega)
  rcases hb with hb | hb <;> rw [hb] at HST HIN ⊢
  · have hst2 : inF s t (k + 1) = true := by rw [HST.out]; rfl
    have HS2 := Lib.hid hst2; clear hst2 HST HIN hlen
    by_cases hkk : k + t.length ≤ s.length
    · simp (maxSteps := 1000000) (disch := omega) only [lb_law04_SyntaxParts1, List.getD_cons_succ, List.getD_cons_zero, decide_true, decide_false, go_sem, wrapI, wrapB, upd_is, upd_not, Nat.reduceAdd, Nat.reduceSub, Nat.reduceMul, Nat.reduceLeDiff, Nat.reduceEqDiff, Int.reduceAdd, Int.reduceSub, Int.reduceMul, Int.reduceNeg, Int.reduceLT, Int.reduceLE, Int.reduceEq, Int.reduceToNat, reduceCtorEq, reduceIte, Nat.zero_add, Nat.add_zero, *]
      intro _ _
      refine ⟨fun _ => ?_, fun h => absurd h (by omega)⟩
      refine HKK.out _ _ (Nat.le_refl _) (by omega) ⟨.sc (.bool (decide ((k : Int) + (t.length : Int) ≤ (s.length : Int)))), ?_⟩
      rw [HS2.out]
      rfl
    · simp (maxSteps := 1000000) (disch := omega) only [lb_law04_SyntaxParts1, List.getD_cons_succ, List.getD_cons_zero, decide_true, decide_false, go_sem, wrapI, wrapB, upd_is, upd_not, Nat.reduceAdd, Nat.reduceSub, Nat.reduceMul, Nat.reduceLeDiff, Nat.reduceEqDiff, Int.reduceAdd, Int.reduceSub, Int.reduceMul, Int.reduceNeg, Int.reduceLT, Int.reduceLE, Int.reduceEq, Int.reduceToNat, reduceCtorEq, reduceIte, Nat.zero_add, Nat.add_zero, *]
      intro _ _
      refine ⟨fun h => absurd h (by omega), fun _ => ?_⟩
      rw [H9.out]
      simp (maxSteps := 1000000) (disch := omega) only [go_sem, wrapI, wrapB, upd_is, upd_not, Nat.reduceAdd, Nat.reduceSub, Nat.reduceMul, Nat.reduceLeDiff, Nat.reduceEqDiff, Int.reduceAdd, Int.reduceSub, Int.reduceMul, Int.reduceNeg, Int.reduceLT, Int.reduceLE, Int.reduceEq, Int.reduceToNat, reduceCtorEq, reduceIte, Nat.zero_add, Nat.add_zero, *]
      exact HK.out _ _ _ _ _ hn
  · have hkp : k ≤ p.length := by
      rcases Nat.lt_or_ge p.length k with h | h
      · have := HIN.out h; cases this
      · exact h
    clear HIN
    have HLE := Lib.hid hlen; clear hlen
    simp (maxSteps := 1000000) (disch := omega) only [lb_law04_SyntaxParts1, List.getD_cons_succ, List.getD_cons_zero, decide_true, decide_false, go_sem, wrapI, wrapB, upd_is, upd_not, Nat.reduceAdd, Nat.reduceSub, Nat.reduceMul, Nat.reduceLeDiff, Nat.reduceEqDiff, Int.reduceAdd, Int.reduceSub, Int.reduceMul, Int.reduceNeg, Int.reduceLT, Int.reduceLE, Int.reduceEq, Int.reduceToNat, reduceCtorEq, reduceIte, Nat.zero_add, Nat.add_zero, *]
    intro _ _
    have hle := HLE.out
    refine ⟨fun _ => ?_, fun h => absurd h (by omega)⟩
    rw [if_pos (by omega), bindP_some, binS_eql, bindP_some]
    refine HKK.out _ _ (Nat.le_refl _) (by omega) ⟨.sc (.bool (decide ((k : Int) + (t.length : Int) ≤ (s.length : Int)))), ?_⟩
    rw [HST.out, List.drop_take, show ((k : Int) + (t.length : Int)).toNat - k = t.length by omega]
    rfl
theorem parts_con (e : Ep) (he : BdRg e) : Con Tryd.prog 3 [.ag (encE e)] (.ret (.sc (.bool true))) := by
  refine con_of (by_law04_SyntaxParts ?_)
  generalize hR : RC _ = R
  have HR := Lib.hid hR; clear hR
  have HPe := Lib.hid (printExpr_con e he)
  simp (maxSteps := 1000000) (disch := omega) only [sh_law04_SyntaxParts, go_sem, wrapI, wrapB, upd_is, upd_not, Nat.reduceAdd, Nat.reduceSub, Nat.reduceMul, Nat.reduceLeDiff, Nat.reduceEqDiff, Int.reduceAdd, Int.reduceSub, Int.reduceMul, Int.reduceNeg, Int.reduceLT, Int.reduceLE, Int.reduceEq, Int.reduceToNat, reduceCtorEq, reduceIte, Nat.zero_add, Nat.add_zero, *]
  refine CALL_con0 alive4_con rfl ?_
  simp (maxSteps := 1000000) (disch := omega) only [decide_true, decide_false, go_sem, wrapI, wrapB, upd_is, upd_not, Nat.reduceAdd, Nat.reduceSub, Nat.reduceMul, Nat.reduceLeDiff, Nat.reduceEqDiff, Int.reduceAdd, Int.reduceSub, Int.reduceMul, Int.reduceNeg, Int.reduceLT, Int.reduceLE, Int.reduceEq, Int.reduceToNat, reduceCtorEq, reduceIte, Nat.zero_add, Nat.add_zero, *]
  refine CALL_con0 HPe.out (by simp only [List.append_nil, brwL_cons, brwL_nil, brw_ag, encE_brw, Option.map_some]) ?_
  simp (maxSteps := 1000000) (disch := omega) only [go_sem, wrapI, wrapB, upd_is, upd_not, Nat.reduceAdd, Nat.reduceSub, Nat.reduceMul, Nat.reduceLeDiff, Nat.reduceEqDiff, Int.reduceAdd, Int.reduceSub, Int.reduceMul, Int.reduceNeg, Int.reduceLT, Int.reduceLE, Int.reduceEq, Int.reduceToNat, reduceCtorEq, reduceIte, Nat.zero_add, Nat.add_zero, *]
  refine CALL_con0 (num4_con _) rfl ?_
  by_cases h0 : (walkF 12 e 0).1 = 0
  · have hpp : ppF e = (printF e, 0) := if_pos h0
    have hlen : (printF e).length ≤ 17000000000 := by
      have := print_len 12 e (walk_ok 12 e 0 h0) he.1
      omega
    have hargs := part_args h0
    have hput : ∀ (i : Nat) (x : Ep), e.args[i]? = some x → ∃ p q : Tx, printF e = p ++ printF x ++ q ∧ 1 ≤ q.length := by
      intro i x hx
      have h : argsN e.op = (((e.args.map printF).length : Int), true) := by rw [List.length_map]; exact hargs
      have := put_in (op := e.op) (kind := e.kind) (n := e.n) (text := e.text) (table := e.table) (name := e.name) (i := i) (t := printF x) h (by rw [List.getElem?_map, hx]; rfl)
      rw [← printF_eq] at this
      exact this
    have hal := args_two hargs
    have HA := Lib.hid (fun (i : Nat) (x : Ep) (hx : e.args[i]? = some x) => (by
      have h := printExpr_con x ⟨he.1.arg hx, he.2.arg hx⟩
      have h2 : ppF x = (printF x, 0) := if_pos (walk_arg h0 (List.mem_of_getElem? hx))
      rw [h2] at h; exact h : Con Tryd.prog 10 [.ag (encE x)] (.ret (.tp [.s (printF x), .sc (.int .i64 0)]))))
    have HPUT := Lib.hid hput; clear hput hargs HPe
    rw [hpp]; clear hpp h0
    simp (maxSteps := 1000000) (disch := omega) only [decide_true, decide_false, go_sem, wrapI, wrapB, upd_is, upd_not, Nat.reduceAdd, Nat.reduceSub, Nat.reduceMul, Nat.reduceLeDiff, Nat.reduceEqDiff, Int.reduceAdd, Int.reduceSub, Int.reduceMul, Int.reduceNeg, Int.reduceLT, Int.reduceLE, Int.reduceEq, Int.reduceToNat, reduceCtorEq, reduceIte, Nat.zero_add, Nat.add_zero, *]
    refine LOOP_listM e.args (fun i s σ' n' => ∃ x0 x1 x2 x3 x4 x5 x6 x7 x8, s = [x0, x1, x2, x3, x4, x5, x6, x7, x8, .sc (.int .i64 i)] ∧ 16 ≤ n' ∧ σ' 0 = some (.c ⟨7, [encE e], true, false⟩))
      (.refl ⟨_, _, _, _, _, _, _, _, _, rfl, by omega, ?_⟩) ?_ ?_
    · simp (disch := omega) only [upd_is]
    · rintro i x K s σ n2 hx hi hi' hn ⟨x0, x1, x2, x3, x4, x5, x6, x7, x8, rfl, hn2, hs0⟩ hK
      have HK := Lib.hid hK; clear hK
      have HC := Lib.hid (HA.out i x hx)
      have HIN := Lib.hid (HPUT.out i x hx)
      simp (maxSteps := 1000000) (disch := omega) only [lb_law04_SyntaxParts4, encE_eq, decide_true, decide_false, go_sem, wrapI, wrapB, upd_is, upd_not, Nat.reduceAdd, Nat.reduceSub, Nat.reduceMul, Nat.reduceLeDiff, Nat.reduceEqDiff, Int.reduceAdd, Int.reduceSub, Int.reduceMul, Int.reduceNeg, Int.reduceLT, Int.reduceLE, Int.reduceEq, Int.reduceToNat, reduceCtorEq, reduceIte, Nat.zero_add, Nat.add_zero, *]
      intro _
      rw [← encE_eq]
      refine CALL_con0 HC.out (by simp only [List.append_nil, brwL_cons, brwL_nil, brw_ag, encE_brw, Option.map_some]) ?_
      simp (maxSteps := 1000000) (disch := omega) only [go_sem, wrapI, wrapB, upd_is, upd_not, Nat.reduceAdd, Nat.reduceSub, Nat.reduceMul, Nat.reduceLeDiff, Nat.reduceEqDiff, Int.reduceAdd, Int.reduceSub, Int.reduceMul, Int.reduceNeg, Int.reduceLT, Int.reduceLE, Int.reduceEq, Int.reduceToNat, reduceCtorEq, reduceIte, Nat.zero_add, Nat.add_zero, *]
      refine CALL_con0 (num4_con 0) rfl ?_
      obtain ⟨p, q, hpq, hq⟩ := HIN.out
      have hl2 : (printF e).length = p.length + (printF x).length + q.length := by rw [hpq]; simp only [List.length_append]
      have hge : ¬ (printF e).length ≤ (printF x).length := by omega
      have HPQ := Lib.hid hpq; clear hpq
      generalize hpe : printF e = s at *
      generalize hpx : printF x = t at *
      simp (maxSteps := 1000000) (disch := omega) only [decide_true, decide_false, go_sem, wrapI, wrapB, upd_is, upd_not, Nat.reduceAdd, Nat.reduceSub, Nat.reduceMul, Nat.reduceLeDiff, Nat.reduceEqDiff, Int.reduceAdd, Int.reduceSub, Int.reduceMul, Int.reduceNeg, Int.reduceLT, Int.reduceLE, Int.reduceEq, Int.reduceToNat, reduceCtorEq, reduceIte, Nat.zero_add, Nat.add_zero, *]
      refine ⟨fun h => absurd h (by omega), fun _ => ?_⟩
      refine inner4 HPQ.out hq hlen R [x0, x1, x2, x3, x4, x5, x6, x7, x8, .sc (.int .i64 i)] K _ _ _ _ _ _ i rfl (by omega) ?_
      intro a b c d n' hn'
      refine HK.out _ _ _ (.refl ⟨_, _, _, _, _, _, _, _, _, rfl, by omega, ?_⟩)
      exact hs0
    · rintro K s σ n2 hn ⟨x0, x1, x2, x3, x4, x5, x6, x7, x8, rfl, hn2, hs0⟩
      simp (maxSteps := 1000000) (disch := omega) only [lb_law04_SyntaxParts4, encE_eq, decide_true, decide_false, go_sem, wrapI, wrapB, upd_is, upd_not, Nat.reduceAdd, Nat.reduceSub, Nat.reduceMul, Nat.reduceLeDiff, Nat.reduceEqDiff, Int.reduceAdd, Int.reduceSub, Int.reduceMul, Int.reduceNeg, Int.reduceLT, Int.reduceLE, Int.reduceEq, Int.reduceToNat, reduceCtorEq, reduceIte, Nat.zero_add, Nat.add_zero, *]
      intro _
      rw [← HR.out]; exact RC_ret rfl rfl
  · have hpp : ppF e = ([], (walkF 12 e 0).1) := if_neg h0
    rw [hpp]
    simp (maxSteps := 1000000) (disch := omega) only [decide_true, decide_false, go_sem, wrapI, wrapB, upd_is, upd_not, Nat.reduceAdd, Nat.reduceSub, Nat.reduceMul, Nat.reduceLeDiff, Nat.reduceEqDiff, Int.reduceAdd, Int.reduceSub, Int.reduceMul, Int.reduceNeg, Int.reduceLT, Int.reduceLE, Int.reduceEq, Int.reduceToNat, reduceCtorEq, reduceIte, Nat.zero_add, Nat.add_zero, *]
    rw [← HR.out]; exact RC_ret rfl rfl
end Go.Proofs.YtodoejfkjimeaaaDoor
