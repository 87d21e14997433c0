/- Packed by a program of this repo: Sq. -/
import Derived.Test.YtodoejfkjimeaaaDoorKESp
import Derived.Test.YtodoejfkjimeaaaDoorKESlR
import Derived.Test.YtodoejfkjimeaaaDoorKESh4
import Derived.Test.YtodoejfkjimeaaaDoorKECx
import Derived.Test.YtodoejfkjimeaaaDoorKEMu
import Derived.Test.YtodoejfkjimeaaaDoorKERg
set_option linter.unusedSimpArgs false
set_option linter.unusedVariables false
set_option maxRecDepth 100000
namespace Go.Proofs.YtodoejfkjimeaaaDoor
open Go Go.RowKit Am
attribute [-go_sem] guardP_if guardK_if guardD_if COND_bool
attribute [local go_sem low] guardP_if guardK_if guardD_if COND_bool

/-- a walk of two texts that tells a text -/
theorem con_text2 {f : FuncId} {a b r : List UInt8} (hgo : goFn Tryd.prog f = true) (hr : r.length ≤ 9223372036854775807)
    (h : ∀ (s t : ByteArray) (m : Int) (w : World), s.data.toList = a → t.data.toList = b → w.cell? ⟨GB, 0, none⟩ = some (.int .i64 m) → Calls Tryd.prog f #[.string s, .string t] w fun e w' => e = .returned (.string ⟨r.toArray⟩) ∧ Below w.heap.size w w') : Con Tryd.prog f [.s a, .s b] (.ret (.s r)) := by
  refine ⟨hgo, fun M w vs hM hargs => ?_⟩
  obtain ⟨_, _, _, m, hm⟩ := hM
  obtain ⟨hn, hx⟩ := hargs
  obtain ⟨l⟩ := vs
  match l, hn, hx with
  | [u, v], _, hx =>
    have h0 := hx 0 u (.s a) rfl rfl
    have h1 := hx 1 v (.s b) rfl rfl
    cases h0 with
    | s s _ hl hb =>
      cases h1 with
      | s t _ hl2 hb2 =>
        refine (h s t m w hl hl2 hm).mono ?_
        rintro e w' ⟨rfl, hbw⟩
        exact ⟨.s _ _ (by simp) hr, below_fr hbw⟩
theorem con_text3 {f : FuncId} {a b c r : List UInt8} (hgo : goFn Tryd.prog f = true) (hr : r.length ≤ 9223372036854775807)
    (h : ∀ (s t u : ByteArray) (m : Int) (w : World), s.data.toList = a → t.data.toList = b → u.data.toList = c → w.cell? ⟨GB, 0, none⟩ = some (.int .i64 m) → Calls Tryd.prog f #[.string s, .string t, .string u] w fun e w' => e = .returned (.string ⟨r.toArray⟩) ∧ Below w.heap.size w w') : Con Tryd.prog f [.s a, .s b, .s c] (.ret (.s r)) := by
  refine ⟨hgo, fun M w vs hM hargs => ?_⟩
  obtain ⟨_, _, _, m, hm⟩ := hM
  obtain ⟨hn, hx⟩ := hargs
  obtain ⟨l⟩ := vs
  match l, hn, hx with
  | [u, v, x], _, hx =>
    have h0 := hx 0 u (.s a) rfl rfl
    have h1 := hx 1 v (.s b) rfl rfl
    have h2 := hx 2 x (.s c) rfl rfl
    cases h0 with
    | s s _ hl hb =>
      cases h1 with
      | s t _ hl2 hb2 =>
        cases h2 with
        | s u _ hl3 hb3 =>
          refine (h s t u m w hl hl2 hl3 hm).mono ?_
          rintro e w' ⟨rfl, hbw⟩
          exact ⟨.s _ _ (by simp) hr, below_fr hbw⟩
theorem trim_con (s p : List UInt8) (hs : s.length ≤ 9223372036854775807) : Con Tryd.prog 60 [.s s, .s p] (.ret (.s (Lib.trimPrefix s p))) := by
  refine con_text2 (by kernel_rfl) (Nat.le_trans (trim_len s p) hs) (fun a b m w ha hb hm => ?_)
  refine (sl_strings_TrimPrefix a b w).mono ?_
  rintro e w' ⟨rfl, rfl⟩
  rw [ha, hb]
  exact ⟨rfl, .refl _ _⟩
theorem replace_con (s : List UInt8) (hs : s.length ≤ 1048576) : Con Tryd.prog 101 [.s s, .s [39], .s [39, 39]] (.ret (.s (Lib.replaceAll s [39] [39, 39]))) := by
  have hc := count_le s
  refine con_text3 (by kernel_rfl) (by have := replace_len hc; omega) (fun a b c m w ha hb hcc hm => ?_)
  have hsz : a.size = s.length := by rw [← ByteArray.size_data, ← Array.length_toList, ha]
  have hbz : b.size = 1 := by rw [← ByteArray.size_data, ← Array.length_toList, hb]; rfl
  have hcz : c.size = 2 := by rw [← ByteArray.size_data, ← Array.length_toList, hcc]; rfl
  have hcnt : Lib.countB a b = Lib.count s [39] := by
    show Lib.count a.data.toList b.data.toList = _
    rw [ha, hb]
  refine (sl_strings_ReplaceAll a b c m w (by omega) hm (by omega) (by rw [hcnt, hcz]; omega)).mono ?_
  rintro e w' ⟨rfl, hbw⟩
  rw [ha, hb, hcc]
  exact ⟨rfl, hbw⟩
theorem tq (n : Int) : n = 10 * n.tdiv 10 + n.tmod 10 ∧ -9 ≤ n.tmod 10 ∧ n.tmod 10 ≤ 9 ∧ (0 ≤ n → 0 ≤ n.tmod 10 ∧ 0 ≤ n.tdiv 10) ∧ (n ≤ 0 → n.tmod 10 ≤ 0 ∧ n.tdiv 10 ≤ 0) := by
  have h := Int.mul_tdiv_add_tmod n 10
  rcases Int.le_total 0 n with h0 | h0
  · have e1 := Int.tdiv_eq_ediv_of_nonneg (b := 10) h0
    have e2 := Int.tmod_eq_emod_of_nonneg (b := 10) h0
    rw [e1, e2] at *
    omega
  · obtain ⟨m, rfl⟩ : ∃ m, n = -m := ⟨-n, by omega⟩
    have hm : 0 ≤ m := by omega
    have e1 := Int.tdiv_eq_ediv_of_nonneg (b := 10) hm
    have e2 := Int.tmod_eq_emod_of_nonneg (b := 10) hm
    rw [Int.neg_tdiv, Int.neg_tmod, e1, e2]
    omega
theorem wrap32 {x : Int} (h : 0 ≤ x) (h2 : x < 1000) : IntKind.i32.wrap x = x := by
  simp [IntKind.wrap, IntKind.signed, IntKind.bits]
  omega
theorem digit_eq {d m : Int} (h : m = 48 + (d.natAbs : Int)) : UInt8.ofNat m.toNat = UInt8.ofNat (48 + d.natAbs) := by
  congr 1; omega
set_option maxHeartbeats 2000000 in
theorem decimal_con : ∀ (f j : Nat) (n : Int), 1 ≤ j → n.natAbs < 10 ^ j → j + (if n < 0 then 1 else 0) ≤ f → f ≤ 1000 → rng n → Con Tryd.prog 100 [.sc (.int .i64 n)] (.ret (.s (decF f n)))
  | 0, j, n, hj, _, hf, _, _ => by omega
  | f + 1, j, n, hj, hn, hf, hf2, hr => by
    refine con_of (by_syntax_Decimal ?_)
    generalize hR : RC _ = R
    have HR := Lib.hid hR; clear hR
    obtain ⟨h1, h2, h3, h4, h5⟩ := tq n
    have IH := Lib.hid (fun j n => decimal_con f j n)
    have HL := Lib.hid (decF_len f)
    unfold rng at hr
    obtain ⟨r1, r2⟩ := hr
    have hd : decF (f + 1) n = if n < 0 ∧ n.tdiv 10 = 0 then 45 :: decF f (-n) else (if n.tdiv 10 ≠ 0 then decF f (n.tdiv 10) else []) ++ [UInt8.ofNat (48 + (n.tmod 10).natAbs)] := rfl
    have hp : 10 ^ j = 10 * 10 ^ (j - 1) := by
      obtain ⟨i, rfl⟩ : ∃ i, j = i + 1 := ⟨j - 1, by omega⟩
      rw [Nat.pow_succ]; simp; omega
    obtain ⟨q, hq⟩ : ∃ q, n.tdiv 10 = q := ⟨_, rfl⟩
    obtain ⟨d, hd0⟩ : ∃ d, n.tmod 10 = d := ⟨_, rfl⟩
    rw [hq, hd0] at hd h1
    rw [hd0] at h2 h3 h4 h5
    rw [hq] at h4 h5
    have b1 : n ≤ 10 * q + d := by omega
    have b2 : 10 * q + d ≤ n := by omega
    have k1 : 0 ≤ 48 + (0 - d) := by omega
    have k2 : 48 + (0 - d) < 128 := by omega
    have k3 : 0 ≤ 48 + d := by omega
    have k4 : 48 + d < 128 := by omega
    have HD := Lib.hid hd; clear hd
    have hq10 : q.natAbs < 10 ^ (j - 1) := by
      rw [hp] at hn
      generalize 10 ^ (j - 1) = P at hn
      omega
    have hj1 : q ≠ 0 → 1 ≤ j - 1 := by
      intro hq0
      rcases Nat.lt_or_ge 1 j with h | h
      · omega
      · have : j - 1 = 0 := by omega
        rw [this] at hq10; simp at hq10; omega
    have HP := Lib.hid (And.intro hn (And.intro hq10 hj1)); clear hn hq10 hj1 hp h1
    by_cases hneg : n < 0
    · rw [if_pos hneg] at hf
      obtain ⟨h51, h52⟩ := h5 (by omega)
      clear h4 h5
      by_cases hq0 : q = 0
      · have hc := Lib.hid (IH.out j (-n) hj (by have := HP.out.1; omega) (by rw [if_neg (by omega)]; omega) (by omega) (by unfold rng; omega))
        have hl : 1 + (decF f (-n)).length ≤ 9223372036854775807 := by have := HL.out (-n); omega
        rw [if_pos ⟨hneg, hq0⟩] at HD
        have e0 : 0 - n = -n := by omega
        have E0 := Lib.hid e0; clear e0
        subst hq0
        clear HP
        simp (maxSteps := 1000000) (disch := omega) only [sh_syntax_Decimal, decide_true, decide_false, wrap32, go_sem, wrapI, wrapB, upd_is, upd_not, Nat.reduceAdd, Nat.reduceSub, Nat.reduceMul, Nat.reduceLeDiff, Nat.reduceEqDiff, Int.reduceAdd, Int.reduceSub, Int.reduceMul, Int.reduceNeg, Int.reduceLT, Int.reduceLE, Int.reduceEq, Int.reduceToNat, reduceCtorEq, reduceIte, Nat.zero_add, Nat.add_zero, *]
        rw [E0.out]
        refine CALL_con0 hc.out rfl ?_
        simp (maxSteps := 1000000) (disch := omega) only [go_sem, wrapI, wrapB, upd_is, upd_not, Nat.reduceAdd, Nat.reduceSub, Nat.reduceMul, Nat.reduceLeDiff, Nat.reduceEqDiff, Int.reduceAdd, Int.reduceSub, Int.reduceMul, Int.reduceNeg, Int.reduceLT, Int.reduceLE, Int.reduceEq, Int.reduceToNat, reduceCtorEq, reduceIte, Nat.zero_add, Nat.add_zero, *]
        rw [← HR.out]
        exact RC_ret rfl (by rw [HD.out])
      · have hqr : -922337203685477580 ≤ q ∧ q ≤ 0 := by omega
        have hc := Lib.hid (IH.out (j - 1) q (HP.out.2.2 hq0) HP.out.2.1 (by split <;> omega) (by omega) (by unfold rng; omega))
        have hl : (decF f q).length ≤ 9223372036854775806 := by have := HL.out q; omega
        rw [if_neg (by simp [hq0]), if_pos hq0] at HD
        have hdd : d < 0 - d ∨ ¬ d < 0 - d := Classical.em _
        clear HP
        have hm : d.natAbs = (-d).toNat := by omega
        rcases hdd with hdd | hdd
        · simp (maxSteps := 1000000) (disch := omega) only [sh_syntax_Decimal, decide_true, decide_false, wrap32, go_sem, wrapI, wrapB, upd_is, upd_not, Nat.reduceAdd, Nat.reduceSub, Nat.reduceMul, Nat.reduceLeDiff, Nat.reduceEqDiff, Int.reduceAdd, Int.reduceSub, Int.reduceMul, Int.reduceNeg, Int.reduceLT, Int.reduceLE, Int.reduceEq, Int.reduceToNat, reduceCtorEq, reduceIte, Nat.zero_add, Nat.add_zero, *]
          refine CALL_con0 hc.out rfl ?_
          simp (maxSteps := 1000000) (disch := omega) only [go_sem, wrapI, wrapB, upd_is, upd_not, Nat.reduceAdd, Nat.reduceSub, Nat.reduceMul, Nat.reduceLeDiff, Nat.reduceEqDiff, Int.reduceAdd, Int.reduceSub, Int.reduceMul, Int.reduceNeg, Int.reduceLT, Int.reduceLE, Int.reduceEq, Int.reduceToNat, reduceCtorEq, reduceIte, Nat.zero_add, Nat.add_zero, *]
          rw [← HR.out]
          exact RC_ret rfl (by rw [HD.out, digit_eq (d := d) (by omega)])
        · simp (maxSteps := 1000000) (disch := omega) only [sh_syntax_Decimal, decide_true, decide_false, wrap32, go_sem, wrapI, wrapB, upd_is, upd_not, Nat.reduceAdd, Nat.reduceSub, Nat.reduceMul, Nat.reduceLeDiff, Nat.reduceEqDiff, Int.reduceAdd, Int.reduceSub, Int.reduceMul, Int.reduceNeg, Int.reduceLT, Int.reduceLE, Int.reduceEq, Int.reduceToNat, reduceCtorEq, reduceIte, Nat.zero_add, Nat.add_zero, *]
          refine CALL_con0 hc.out rfl ?_
          simp (maxSteps := 1000000) (disch := omega) only [go_sem, wrapI, wrapB, upd_is, upd_not, Nat.reduceAdd, Nat.reduceSub, Nat.reduceMul, Nat.reduceLeDiff, Nat.reduceEqDiff, Int.reduceAdd, Int.reduceSub, Int.reduceMul, Int.reduceNeg, Int.reduceLT, Int.reduceLE, Int.reduceEq, Int.reduceToNat, reduceCtorEq, reduceIte, Nat.zero_add, Nat.add_zero, *]
          rw [← HR.out]
          exact RC_ret rfl (by rw [HD.out, digit_eq (d := d) (by omega)])
    · rw [if_neg hneg] at hf
      obtain ⟨h41, h42⟩ := h4 (by omega)
      clear h4 h5
      have hdd : d < 0 - d ∨ ¬ d < 0 - d := Classical.em _
      by_cases hq0 : q = 0
      · rw [if_neg (by simp [hneg]), if_neg (by simp [hq0])] at HD
        clear HP
        subst hq0
        rcases hdd with hdd | hdd
        · omega
        · simp (maxSteps := 1000000) (disch := omega) only [sh_syntax_Decimal, decide_true, decide_false, wrap32, go_sem, wrapI, wrapB, upd_is, upd_not, Nat.reduceAdd, Nat.reduceSub, Nat.reduceMul, Nat.reduceLeDiff, Nat.reduceEqDiff, Int.reduceAdd, Int.reduceSub, Int.reduceMul, Int.reduceNeg, Int.reduceLT, Int.reduceLE, Int.reduceEq, Int.reduceToNat, reduceCtorEq, reduceIte, Nat.zero_add, Nat.add_zero, *]
          rw [← HR.out]
          exact RC_ret rfl (by rw [HD.out, digit_eq (d := d) (by omega)]; rfl)
      · have hqr : 0 ≤ q ∧ q ≤ 922337203685477580 := by omega
        have hc := Lib.hid (IH.out (j - 1) q (HP.out.2.2 hq0) HP.out.2.1 (by rw [if_neg (by omega)]; omega) (by omega) (by unfold rng; omega))
        have hl : (decF f q).length ≤ 9223372036854775806 := by have := HL.out q; omega
        rw [if_neg (by simp [hneg]), if_pos hq0] at HD
        clear HP
        rcases hdd with hdd | hdd
        · omega
        · simp (maxSteps := 1000000) (disch := omega) only [sh_syntax_Decimal, decide_true, decide_false, wrap32, go_sem, wrapI, wrapB, upd_is, upd_not, Nat.reduceAdd, Nat.reduceSub, Nat.reduceMul, Nat.reduceLeDiff, Nat.reduceEqDiff, Int.reduceAdd, Int.reduceSub, Int.reduceMul, Int.reduceNeg, Int.reduceLT, Int.reduceLE, Int.reduceEq, Int.reduceToNat, reduceCtorEq, reduceIte, Nat.zero_add, Nat.add_zero, *]
          refine CALL_con0 hc.out rfl ?_
          simp (maxSteps := 1000000) (disch := omega) only [go_sem, wrapI, wrapB, upd_is, upd_not, Nat.reduceAdd, Nat.reduceSub, Nat.reduceMul, Nat.reduceLeDiff, Nat.reduceEqDiff, Int.reduceAdd, Int.reduceSub, Int.reduceMul, Int.reduceNeg, Int.reduceLT, Int.reduceLE, Int.reduceEq, Int.reduceToNat, reduceCtorEq, reduceIte, Nat.zero_add, Nat.add_zero, *]
          rw [← HR.out]
          exact RC_ret rfl (by rw [HD.out, digit_eq (d := d) (by omega)])
end Go.Proofs.YtodoejfkjimeaaaDoor
