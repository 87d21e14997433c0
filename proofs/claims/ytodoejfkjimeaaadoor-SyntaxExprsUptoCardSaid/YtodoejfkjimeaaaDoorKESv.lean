/- Packed by a program of this repo: Sv. -/
import Derived.Test.YtodoejfkjimeaaaDoorKESu
import Derived.Test.YtodoejfkjimeaaaDoorKESs
import Derived.Test.YtodoejfkjimeaaaDoorKEDj
set_option linter.unusedSimpArgs false
set_option linter.unusedVariables false
set_option maxRecDepth 100000
namespace Go.Proofs.YtodoejfkjimeaaaDoor
open Go Go.RowKit Am
attribute [-go_sem] guardP_if guardK_if guardD_if COND_bool
attribute [local go_sem low] guardP_if guardK_if guardD_if COND_bool
theorem aCvb_one {σ : Hp} {i : Nat} {x : Int} {w : Bool} (h : σ i = some (.c ⟨1, [[.sc (.int .u8 x)]], w, true⟩)) : aCvb σ (.ow i 1 0 1) = some (.s [UInt8.ofNat x.toNat]) :=
  aCvb_all (f := id) (l := [x]) h rfl (by decide)
theorem rfDecimal_con (n0 : Int) (hr : rng n0) : Con Tryd.prog 103 [.sc (.int .i64 n0)] (.ret (.s (decF 40 n0))) := by
  refine con_of (by_ref04_Decimal ?_)
  generalize hR : RC _ = R
  have HR := Lib.hid hR; clear hR
  have HD := Lib.hid (dec40 hr)
  unfold rng at hr
  rw [sh_ref04_Decimal]
  refine LOOP_up 20 (fun i s σ n => ∃ x0 x1 x2 t m, s = [x0, x1, x2, .s t, .sc (.int .i64 m)] ∧ t.length = i ∧ m.natAbs < 10 ^ (20 - i) ∧ (-9223372036854775808 ≤ m ∧ m ≤ 9223372036854775807) ∧ contF (39 - i) m t = digF 39 n0) (.refl ⟨_, _, _, _, _, rfl, rfl, ?_, hr, ?_⟩) ?_
  · have : (10 : Nat) ^ (20 - 0) = 100000000000000000000 := by decide
    rw [this]; omega
  · rw [contF, if_neg (by simp), List.append_nil]
  · rintro i K s σ n hn hi - ⟨x0, x1, x2, t, m, rfl, ht, hm, hmr, hc⟩ hK
    have HK := Lib.hid hK; clear hK
    obtain ⟨h1, h2, h3, h4, h5⟩ := tq m
    have HC := Lib.hid hc; clear hc
    have hme : m = 0 ∧ t ≠ [] ∨ ¬ (m = 0 ∧ t ≠ []) := Classical.em _
    rcases hme with ⟨hm0, htn⟩ | hme
    · have hfin : t = digF 39 n0 := by
        have h := HC.out
        rw [contF, if_pos ⟨hm0, htn⟩] at h; exact h
      clear HC h1 h2 h3 h4 h5 hm HK
      subst hm0
      have HF := Lib.hid hfin; clear hfin
      have hl : t.length ≤ 9223372036854775806 := by omega
      by_cases hneg : n0 < 0
      · rw [if_pos hneg] at HD
        simp (maxSteps := 1000000) (disch := omega) only [lb_ref04_Decimal3, decide_true, decide_false, List.getD_cons_succ, List.getD_cons_zero, go_sem, wrapI, wrapB, upd_is, upd_not, Nat.reduceAdd, Nat.reduceSub, Nat.reduceMul, Nat.reduceLeDiff, Nat.reduceEqDiff, Int.reduceAdd, Int.reduceSub, Int.reduceMul, Int.reduceNeg, Int.reduceLT, Int.reduceLE, Int.reduceEq, Int.reduceToNat, reduceCtorEq, reduceIte, Nat.zero_add, Nat.add_zero, *]
        rw [if_pos (by omega), bindP_some, ← HR.out]
        exact RC_ret rfl (by rw [HD.out, ← HF.out]; rfl)
      · rw [if_neg hneg] at HD
        simp (maxSteps := 1000000) (disch := omega) only [lb_ref04_Decimal3, decide_true, decide_false, List.getD_cons_succ, List.getD_cons_zero, go_sem, wrapI, wrapB, upd_is, upd_not, Nat.reduceAdd, Nat.reduceSub, Nat.reduceMul, Nat.reduceLeDiff, Nat.reduceEqDiff, Int.reduceAdd, Int.reduceSub, Int.reduceMul, Int.reduceNeg, Int.reduceLT, Int.reduceLE, Int.reduceEq, Int.reduceToNat, reduceCtorEq, reduceIte, Nat.zero_add, Nat.add_zero, *]
        rw [← HR.out]
        exact RC_ret rfl (by rw [HD.out, ← HF.out]; rfl)
    · have hi2 : i < 20 := by
        rcases Nat.lt_or_ge i 20 with h | h
        · exact h
        · have e : 20 - i = 0 := by omega
          rw [e, Nat.pow_zero] at hm
          exact absurd ⟨by omega, fun h => by rw [h] at ht; simp at ht; omega⟩ hme
      have hst : contF (39 - i) m t = contF (39 - (i + 1)) (m.tdiv 10) (UInt8.ofNat (48 + (m.tmod 10).natAbs) :: t) := by
        have e : 39 - i = (39 - (i + 1)) + 1 := by omega
        rw [e]; exact cont_step hme
      have hlt : (m.tdiv 10).natAbs < 10 ^ (20 - (i + 1)) := tdiv_lt (by
        have e : 20 - i = (20 - (i + 1)) + 1 := by omega
        rw [← e]; exact hm)
      rw [hst] at HC
      clear hst hm
      obtain ⟨q, hq⟩ : ∃ q, m.tdiv 10 = q := ⟨_, rfl⟩
      obtain ⟨d, hd⟩ : ∃ d, m.tmod 10 = d := ⟨_, rfl⟩
      rw [hq] at HC hlt
      rw [hq, hd] at h1
      rw [hd] at h2 h3 h4 h5 HC
      rw [hq] at h4 h5
      have b1 : m ≤ 10 * q + d := by omega
      have b2 : 10 * q + d ≤ m := by omega
      have hqr : -9223372036854775808 ≤ q ∧ q ≤ 9223372036854775807 := by omega
      have HLT := Lib.hid hlt; clear hlt h1
      have hgo : m ≠ 0 ∨ (m = 0 ∧ t = []) := by
        by_cases h0 : m = 0
        · by_cases h1 : t = []
          · exact .inr ⟨h0, h1⟩
          · exact absurd ⟨h0, h1⟩ hme
        · exact .inl h0
      have hl : 1 + t.length ≤ 9223372036854775807 := by omega
      have hnext : ∀ (D : Int), D = (d.natAbs : Int) → ∀ x0 x1 x2, K [x0, x1, x2, .s (UInt8.ofNat (48 + D).toNat :: t), .sc (.int .i64 q)] (upd σ n (some (.c ⟨1, [[.sc (.int .u8 (48 + D))]], true, true⟩))) (n + 16) := by
        rintro D rfl x0 x1 x2
        refine HK.out _ _ _ hi2 (.refl ⟨x0, x1, x2, _, q, rfl, by simp [ht], HLT.out, hqr, ?_⟩)
        have := HC.out
        rw [← digit_eq (d := d) (m := 48 + (d.natAbs : Int)) rfl] at this
        exact this
      have HN := Lib.hid hnext; clear hnext hme ht HK
      clear h4 h5
      rcases hgo with h0 | ⟨h0, ht0⟩
      · have hdd : d < 0 ∨ ¬ d < 0 := Classical.em _
        rcases hdd with hdd | hdd
        · have hn1 := HN.out (0 - d) (by omega); have HN1 := Lib.hid hn1; clear hn1 HN
          have k1 : 0 ≤ 48 + (0 - d) := by omega
          have k2 : 48 + (0 - d) < 256 := by omega
          simp (maxSteps := 1000000) (disch := omega) only [lb_ref04_Decimal3, decide_true, decide_false, List.getD_cons_succ, List.getD_cons_zero, go_sem, wrapI, wrapB, upd_is, upd_not, Nat.reduceAdd, Nat.reduceSub, Nat.reduceMul, Nat.reduceLeDiff, Nat.reduceEqDiff, Int.reduceAdd, Int.reduceSub, Int.reduceMul, Int.reduceNeg, Int.reduceLT, Int.reduceLE, Int.reduceEq, Int.reduceToNat, reduceCtorEq, reduceIte, Nat.zero_add, Nat.add_zero, *]
          rw [aCvb_one (upd_is rfl), bindP_some, bindP_add (by simp only [List.length_cons, List.length_nil]; omega)]
          exact HN1.out _ _ _
        · have hn1 := HN.out d (by omega); have HN1 := Lib.hid hn1; clear hn1 HN
          have k1 : 0 ≤ 48 + d := by omega
          have k2 : 48 + d < 256 := by omega
          simp (maxSteps := 1000000) (disch := omega) only [lb_ref04_Decimal3, decide_true, decide_false, List.getD_cons_succ, List.getD_cons_zero, go_sem, wrapI, wrapB, upd_is, upd_not, Nat.reduceAdd, Nat.reduceSub, Nat.reduceMul, Nat.reduceLeDiff, Nat.reduceEqDiff, Int.reduceAdd, Int.reduceSub, Int.reduceMul, Int.reduceNeg, Int.reduceLT, Int.reduceLE, Int.reduceEq, Int.reduceToNat, reduceCtorEq, reduceIte, Nat.zero_add, Nat.add_zero, *]
          rw [aCvb_one (upd_is rfl), bindP_some, bindP_add (by simp only [List.length_cons, List.length_nil]; omega)]
          exact HN1.out _ _ _
      · subst h0; subst ht0
        have hdz : d = 0 := by rw [← hd]; rfl
        have hqz : q = 0 := by rw [← hq]; rfl
        subst hdz; subst hqz
        have hn1 := HN.out 0 (by omega); have HN1 := Lib.hid hn1; clear hn1 HN
        simp (maxSteps := 1000000) (disch := omega) only [lb_ref04_Decimal3, decide_true, decide_false, List.getD_cons_succ, List.getD_cons_zero, go_sem, wrapI, wrapB, upd_is, upd_not, Nat.reduceAdd, Nat.reduceSub, Nat.reduceMul, Nat.reduceLeDiff, Nat.reduceEqDiff, Int.reduceAdd, Int.reduceSub, Int.reduceMul, Int.reduceNeg, Int.reduceLT, Int.reduceLE, Int.reduceEq, Int.reduceToNat, reduceCtorEq, reduceIte, Nat.zero_add, Nat.add_zero, *]
        rw [aCvb_one (upd_is rfl), bindP_some, bindP_add (by simp only [List.length_cons, List.length_nil]; omega)]
        exact HN1.out _ _ _
theorem rfLiteral_con (kind n : Int) (text : Tx) (h2 : kind = 2 → n = 0 ∨ n = 1) (hr : rng n) (ht : text.length ≤ 1048576) : Con Tryd.prog 61 [.ag [.sc (.int .i64 kind), .sc (.int .i64 n), .s text]] (.ret (.s (litF kind n text))) := by
  refine con_of (by_ref04_Literal ?_)
  generalize hR : RC _ = R
  have HR := Lib.hid hR; clear hR
  have HD := Lib.hid (rfDecimal_con n hr)
  have hl := esc_len text
  clear hr
  by_cases g0 : kind = 0
  · simp (maxSteps := 1000000) (disch := omega) only [sh_ref04_Literal, decide_true, decide_false, go_sem, wrapI, wrapB, upd_is, upd_not, Nat.reduceAdd, Nat.reduceSub, Nat.reduceMul, Nat.reduceLeDiff, Nat.reduceEqDiff, Int.reduceAdd, Int.reduceSub, Int.reduceMul, Int.reduceNeg, Int.reduceLT, Int.reduceLE, Int.reduceEq, Int.reduceToNat, reduceCtorEq, reduceIte, Nat.zero_add, Nat.add_zero, *]
    rw [← HR.out]; exact RC_ret rfl (by rw [litF, if_pos g0])
  · by_cases g1 : kind = 1
    · simp (maxSteps := 1000000) (disch := omega) only [sh_ref04_Literal, decide_true, decide_false, go_sem, wrapI, wrapB, upd_is, upd_not, Nat.reduceAdd, Nat.reduceSub, Nat.reduceMul, Nat.reduceLeDiff, Nat.reduceEqDiff, Int.reduceAdd, Int.reduceSub, Int.reduceMul, Int.reduceNeg, Int.reduceLT, Int.reduceLE, Int.reduceEq, Int.reduceToNat, reduceCtorEq, reduceIte, Nat.zero_add, Nat.add_zero, *]
      refine CALL_con0 HD.out rfl ?_
      simp (maxSteps := 1000000) (disch := omega) only [go_sem, wrapI, wrapB, upd_is, upd_not, Nat.reduceAdd, Nat.reduceSub, Nat.reduceMul, Nat.reduceLeDiff, Nat.reduceEqDiff, Int.reduceAdd, Int.reduceSub, Int.reduceMul, Int.reduceNeg, Int.reduceLT, Int.reduceLE, Int.reduceEq, Int.reduceToNat, reduceCtorEq, reduceIte, Nat.zero_add, Nat.add_zero, *]
      rw [← HR.out]; exact RC_ret rfl (by rw [litF, if_neg g0, if_pos g1])
    · by_cases g2 : kind = 2
      · have c2 : ((2 : Nat) : Int) = 2 := rfl
        rcases h2 g2 with rfl | rfl
        · simp (maxSteps := 1000000) (disch := omega) only [sh_ref04_Literal, decide_true, decide_false, c2, go_sem, wrapI, wrapB, upd_is, upd_not, Nat.reduceAdd, Nat.reduceSub, Nat.reduceMul, Nat.reduceLeDiff, Nat.reduceEqDiff, Int.reduceAdd, Int.reduceSub, Int.reduceMul, Int.reduceNeg, Int.reduceLT, Int.reduceLE, Int.reduceEq, Int.reduceToNat, reduceCtorEq, reduceIte, Nat.zero_add, Nat.add_zero, *]
          rw [← HR.out]; exact RC_ret rfl (by rw [litF, if_neg g0, if_neg g1, if_pos g2]; rfl)
        · simp (maxSteps := 1000000) (disch := omega) only [sh_ref04_Literal, decide_true, decide_false, c2, go_sem, wrapI, wrapB, upd_is, upd_not, Nat.reduceAdd, Nat.reduceSub, Nat.reduceMul, Nat.reduceLeDiff, Nat.reduceEqDiff, Int.reduceAdd, Int.reduceSub, Int.reduceMul, Int.reduceNeg, Int.reduceLT, Int.reduceLE, Int.reduceEq, Int.reduceToNat, reduceCtorEq, reduceIte, Nat.zero_add, Nat.add_zero, *]
          rw [← HR.out]; exact RC_ret rfl (by rw [litF, if_neg g0, if_neg g1, if_pos g2]; rfl)
      · clear h2
        simp (maxSteps := 1000000) (disch := omega) only [sh_ref04_Literal, decide_true, decide_false, go_sem, wrapI, wrapB, upd_is, upd_not, Nat.reduceAdd, Nat.reduceSub, Nat.reduceMul, Nat.reduceLeDiff, Nat.reduceEqDiff, Int.reduceAdd, Int.reduceSub, Int.reduceMul, Int.reduceNeg, Int.reduceLT, Int.reduceLE, Int.reduceEq, Int.reduceToNat, reduceCtorEq, reduceIte, Nat.zero_add, Nat.add_zero, *]
        have he : (39 : UInt8) :: text.flatMap esc ++ [39] = litF kind n text := by rw [litF, if_neg g0, if_neg g1, if_neg g2, replaceAll_esc]; rfl
        have HE := Lib.hid he; clear he
        refine LOOP_list text (fun i st => ∃ x0 x1, st = [x0, x1, .s (39 :: (text.take i).flatMap esc), .sc (.int .i64 i)]) ⟨_, _, rfl⟩ ?_ ?_
        · rintro i x K st n' hx hi hi' hn ⟨x0, x1, rfl⟩ hK
          have HK := Lib.hid hK; clear hK
          have hT := esc_take hx
          have HT := Lib.hid hT; clear hT
          have hlt := esc_len (text.take i)
          rw [List.length_take] at hlt
          have hxx : text[i] = x := (List.getElem?_eq_some_iff.1 hx).2
          have hmin : min i text.length = i := by omega
          generalize (text.take i).flatMap esc = u at *
          have hsub : (if (i : Int) ≤ (i : Int) + 1 ∧ (i : Int) + 1 ≤ (text.length : Int) then some (AV.s (List.drop i (List.take ((i : Int) + 1).toNat text))) else none) = some (.s [x]) := by
            rw [if_pos (by omega), show ((i : Int) + 1).toNat = i + 1 by omega, List.drop_take, List.drop_eq_getElem_cons hi, hxx, show i + 1 - i = 1 by omega]; rfl
          have HS := Lib.hid hsub; clear hsub
          have hKK : ∀ x0 x1, K [x0, x1, .s (39 :: (u ++ esc x)), .sc (.int .i64 ((i : Int) + 1))] _ n' := fun x0 x1 => by
            have h := HK.out [x0, x1, .s (39 :: (u ++ esc x)), .sc (.int .i64 ((i : Int) + 1))] n' (Nat.le_refl _) ⟨x0, x1, ?_⟩
            · exact h
            · rw [HT.out]; rfl
          have HKK := Lib.hid hKK; clear hKK HK HT
          by_cases hb : x = 39
          · simp (maxSteps := 1000000) (disch := omega) only [lb_ref04_Literal3, decide_true, decide_false, List.getD_cons_succ, List.getD_cons_zero, go_sem, wrapI, wrapB, upd_is, upd_not, Nat.reduceAdd, Nat.reduceSub, Nat.reduceMul, Nat.reduceLeDiff, Nat.reduceEqDiff, Int.reduceAdd, Int.reduceSub, Int.reduceMul, Int.reduceNeg, Int.reduceLT, Int.reduceLE, Int.reduceEq, Int.reduceToNat, reduceCtorEq, reduceIte, Nat.zero_add, Nat.add_zero, *]
            intro _
            refine ⟨fun _ => ?_, fun h => absurd rfl h⟩
            rw [if_pos (by omega), bindP_some, HS.out, bindP_some, bindP_add (by simp only [List.length_cons, List.length_append, List.length_nil]; omega)]
            have h := HKK.out
            rw [esc, if_pos hb] at h
            simp only [List.cons_append, List.append_assoc, List.nil_append] at h ⊢
            subst hb
            exact h _ _
          · have hbi : ¬ (x.toNat : Int) = 39 := fun h => hb (UInt8.toNat_inj.1 (by have : (39 : UInt8).toNat = 39 := rfl; omega))
            simp (maxSteps := 1000000) (disch := omega) only [lb_ref04_Literal3, decide_true, decide_false, List.getD_cons_succ, List.getD_cons_zero, go_sem, wrapI, wrapB, upd_is, upd_not, Nat.reduceAdd, Nat.reduceSub, Nat.reduceMul, Nat.reduceLeDiff, Nat.reduceEqDiff, Int.reduceAdd, Int.reduceSub, Int.reduceMul, Int.reduceNeg, Int.reduceLT, Int.reduceLE, Int.reduceEq, Int.reduceToNat, reduceCtorEq, reduceIte, Nat.zero_add, Nat.add_zero, *]
            intro _
            rw [HS.out, bindP_some, bindP_add (by simp only [List.length_cons, List.length_nil]; omega)]
            have h := HKK.out
            rw [esc, if_neg hb] at h
            exact h _ _
        · rintro K st n' hn ⟨x0, x1, rfl⟩
          rw [List.take_length]
          simp (maxSteps := 1000000) (disch := omega) only [lb_ref04_Literal3, decide_true, decide_false, List.getD_cons_succ, List.getD_cons_zero, go_sem, wrapI, wrapB, upd_is, upd_not, Nat.reduceAdd, Nat.reduceSub, Nat.reduceMul, Nat.reduceLeDiff, Nat.reduceEqDiff, Int.reduceAdd, Int.reduceSub, Int.reduceMul, Int.reduceNeg, Int.reduceLT, Int.reduceLE, Int.reduceEq, Int.reduceToNat, reduceCtorEq, reduceIte, Nat.zero_add, Nat.add_zero, *]
          intro _
          rw [if_pos (by omega), bindP_some, ← HR.out]
          exact RC_ret rfl (by rw [← HE.out]; rfl)
end Go.Proofs.YtodoejfkjimeaaaDoor
