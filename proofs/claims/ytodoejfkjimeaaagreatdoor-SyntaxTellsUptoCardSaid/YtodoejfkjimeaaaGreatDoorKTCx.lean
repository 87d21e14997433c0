/- Packed by a program of this repo: Cx Rg Sq Cy Cz Da Db Sr Vb Dc. -/
import Derived.Test.YtodoejfkjimeaaaGreatDoorKTCa
import Derived.Test.YtodoejfkjimeaaaGreatDoorKTSh4
import Derived.Test.YtodoejfkjimeaaaGreatDoorKTMu
import Derived.Test.YtodoejfkjimeaaaGreatDoorKTVa
import Derived.Test.YtodoejfkjimeaaaGreatDoorKTSh4c
set_option linter.unusedSimpArgs false
set_option linter.unusedVariables false
set_option maxRecDepth 100000
namespace Go.Proofs.YtodoejfkjimeaaaGreatDoor
open Go Go.RowKit Am
attribute [local go_sem] wrapI wrapB upd_is upd_not Nat.zero_add Nat.add_zero
attribute [local go_sem_proc] Nat.reduceAdd Nat.reduceSub Nat.reduceMul Nat.reduceLeDiff Nat.reduceEqDiff Int.reduceAdd Int.reduceSub Int.reduceMul Int.reduceNeg Int.reduceLT Int.reduceLE Int.reduceEq Int.reduceToNat reduceCtorEq reduceIte

abbrev eIf (n : Int) : Value := .iface 30 (.int .i64 n)
theorem syntold_err (n : Int) (i id : Nat) (v : AV) : ConW Tryz.prog 62 [.sc (eIf n), .rf i 1 0 0] [(i, blk1 v)] id (.ret (.tp [])) [(i, some (blk1 (.sc (.int .i64 n))))] := by
  refine conW_less' (by kernel_rfl) (fun σ n' R hp hf hR => by_syntax_told ?_)
  have hi := hp _ (List.mem_singleton.2 rfl)
  simp only [blk1] at hi
  clear hp
  have HR := Lib.hid hR; clear hR
  simp (contextual:=true) (maxSteps:=1000000) (disch:=omega) only [sh_syntax_told,go_sem, *]
  exact HR.out _ _ _ rfl (fun j x h => h)
theorem syntold_nil (i id : Nat) : ConW Tryz.prog 62 [.sc .nilIface, .rf i 1 0 0] [] id (.ret (.tp [])) [] := by
  refine conW_less' (by kernel_rfl) (fun σ n' R hp hf hR => by_syntax_told ?_)
  have HR := Lib.hid hR; clear hR
  simp (contextual:=true) (maxSteps:=1000000) (disch:=omega) only [sh_syntax_told,go_sem, *]
  exact HR.out _ _ _ rfl (fun j x h => h)
theorem syncatch (pv : Option Int) (i : Nat) (v : AV) (σ : Hp) (n : Nat) (hi : σ i = some (blk1 v)) : ConR Tryz.prog 61 [.rf i 1 0 0] σ n (pv.map eIf) (fun σ' _ => σ' i = some (blk1 (match pv with | none => v | some m => .sc (.int .i64 m)))) := by
  refine by_syntax_CheckExpr_c1 ?_
  cases pv with
  | none =>
    simp only [sh_syntax_CheckExpr_c1, Option.map_none, recV]
    refine CALL_conW (syntold_nil i n) (fun p hp => by cases hp) (fun n' hn' => ?_)
    simp only [kc_syntax_CheckExpr_c11, onEnd, applyW]
    exact hi
  | some m =>
    simp only [sh_syntax_CheckExpr_c1, Option.map_some, recV]
    refine CALL_conW (syntold_err m i n v) (fun p hp => by simp only [List.mem_singleton] at hp; subst hp; exact hi) (fun n' hn' => ?_)
    simp only [kc_syntax_CheckExpr_c11, onEnd, applyW]
    exact upd_is rfl
theorem checkExpr_con (e : Ep) (hb : Bd e) : Con Tryz.prog 26 [.ag (encE e)] (.ret (.sc (.int .i64 (walkF 12 e 0).1))) := by
  refine con_of (by_syntax_CheckExpr ?_)
  have HB := Lib.hid hb; clear hb
  simp (contextual:=true) (maxSteps:=1000000) (disch:=omega) only [sh_syntax_CheckExpr,go_sem, *]
  refine CALL_conW (walk_con 12 e 0 32 48 1 (by omega) HB.out (by omega) (by omega)) (fun p hp => by simp only [List.mem_singleton] at hp; subst hp; rfl) (fun n' hn' => ?_)
  generalize hw : walkF 12 e 0 = r
  by_cases h1 : r.1 = 0
  · simp (contextual:=true) (maxSteps:=1000000) (disch:=omega) only [endW,go_sem, *]
    refine DEF_con _ rfl (syncatch none 16 (.sc (.int .i64 0)) _ _ ?_) (fun σ' n2 h2 hn2 => ?_)
    · rw [upd_is rfl]
    · simp only [blk1] at h2
      simp (contextual:=true) (maxSteps:=1000000) (disch:=omega) only [go_sem, *]
      exact RC_ret rfl rfl
  · simp (contextual:=true) (maxSteps:=1000000) (disch:=omega) only [endW,go_sem, *]
    refine DEF_con _ rfl (syncatch (some r.1) 16 (.sc (.int .i64 0)) _ _ ?_) (fun σ' n2 h2 hn2 => ?_)
    · rw [upd_not (by omega), upd_not (by omega), upd_is rfl]
    · simp only [blk1] at h2
      simp (contextual:=true) (maxSteps:=1000000) (disch:=omega) only [go_sem, *]
      exact RC_ret rfl rfl
end Go.Proofs.YtodoejfkjimeaaaGreatDoor

set_option linter.unusedSimpArgs false
set_option linter.unusedVariables false
namespace Go.Proofs.YtodoejfkjimeaaaGreatDoor
open Go Go.RowKit Am

def rng (n : Int) : Prop := -9223372036854775808 ≤ n ∧ n ≤ 9223372036854775807
inductive Rg : Ep → Prop
  | mk (e : Ep) (h : rng e.n) (ha : ∀ a ∈ e.args, Rg a) : Rg e
theorem Rg.arg {e a : Ep} {i : Nat} (h : Rg e) (hx : e.args[i]? = some a) : Rg a := by
  cases h with
  | mk e h ha => exact ha a (List.mem_of_getElem? hx)
end Go.Proofs.YtodoejfkjimeaaaGreatDoor

set_option linter.unusedSimpArgs false
set_option linter.unusedVariables false
set_option maxRecDepth 100000
namespace Go.Proofs.YtodoejfkjimeaaaGreatDoor
open Go Go.RowKit Am
attribute [-go_sem] guardP_if guardK_if guardD_if COND_bool
attribute [local go_sem low] guardP_if guardK_if guardD_if COND_bool
attribute [local go_sem] wrapI wrapB upd_is upd_not Nat.zero_add Nat.add_zero
attribute [local go_sem_proc] Nat.reduceAdd Nat.reduceSub Nat.reduceMul Nat.reduceLeDiff Nat.reduceEqDiff Int.reduceAdd Int.reduceSub Int.reduceMul Int.reduceNeg Int.reduceLT Int.reduceLE Int.reduceEq Int.reduceToNat reduceCtorEq reduceIte

theorem con_text2 {f : FuncId} {a b r : List UInt8} (hgo : goFn Tryz.prog f = true) (hr : r.length ≤ 9223372036854775807)
    (h : ∀ (s t : ByteArray) (m : Int) (w : World), s.data.toList = a → t.data.toList = b → w.cell? ⟨GB, 0, none⟩ = some (.int .i64 m) → Calls Tryz.prog f #[.string s, .string t] w fun e w' => e = .returned (.string ⟨r.toArray⟩) ∧ Below w.heap.size w w') : Con Tryz.prog f [.s a, .s b] (.ret (.s r)) := by
  refine ⟨hgo, fun M w vs hM hargs => ?_⟩
  obtain ⟨_, _, _, m, hm⟩ := hM
  obtain ⟨hn, hx⟩ := hargs
  obtain ⟨l⟩ := vs
  match l, hn, hx with
  | [u, v], _, hx =>
    have h0 := hx 0 u (.s a) rfl rfl
    have h1 := hx 1 v (.s b) rfl rfl
    cases h0 with
    | s s _ hl hb =>
      cases h1 with
      | s t _ hl2 hb2 =>
        refine (h s t m w hl hl2 hm).mono ?_
        rintro e w' ⟨rfl, hbw⟩
        exact ⟨.s _ _ (by simp) hr, below_fr hbw⟩
theorem con_text3 {f : FuncId} {a b c r : List UInt8} (hgo : goFn Tryz.prog f = true) (hr : r.length ≤ 9223372036854775807)
    (h : ∀ (s t u : ByteArray) (m : Int) (w : World), s.data.toList = a → t.data.toList = b → u.data.toList = c → w.cell? ⟨GB, 0, none⟩ = some (.int .i64 m) → Calls Tryz.prog f #[.string s, .string t, .string u] w fun e w' => e = .returned (.string ⟨r.toArray⟩) ∧ Below w.heap.size w w') : Con Tryz.prog f [.s a, .s b, .s c] (.ret (.s r)) := by
  refine ⟨hgo, fun M w vs hM hargs => ?_⟩
  obtain ⟨_, _, _, m, hm⟩ := hM
  obtain ⟨hn, hx⟩ := hargs
  obtain ⟨l⟩ := vs
  match l, hn, hx with
  | [u, v, x], _, hx =>
    have h0 := hx 0 u (.s a) rfl rfl
    have h1 := hx 1 v (.s b) rfl rfl
    have h2 := hx 2 x (.s c) rfl rfl
    cases h0 with
    | s s _ hl hb =>
      cases h1 with
      | s t _ hl2 hb2 =>
        cases h2 with
        | s u _ hl3 hb3 =>
          refine (h s t u m w hl hl2 hl3 hm).mono ?_
          rintro e w' ⟨rfl, hbw⟩
          exact ⟨.s _ _ (by simp) hr, below_fr hbw⟩
theorem trim_con (s p : List UInt8) (hs : s.length ≤ 9223372036854775807) : Con Tryz.prog 74 [.s s, .s p] (.ret (.s (Lib.trimPrefix s p))) := by
  refine con_text2 (by kernel_rfl) (Nat.le_trans (trim_len s p) hs) (fun a b m w ha hb hm => ?_)
  refine (sl_strings_TrimPrefix a b w).mono ?_
  rintro e w' ⟨rfl, rfl⟩
  rw [ha, hb]
  exact ⟨rfl, .refl _ _⟩
theorem replace_con (s : List UInt8) (hs : s.length ≤ 1048576) : Con Tryz.prog 87 [.s s, .s [39], .s [39, 39]] (.ret (.s (Lib.replaceAll s [39] [39, 39]))) := by
  have hc := count_le s
  refine con_text3 (by kernel_rfl) (by have := replace_len hc; omega) (fun a b c m w ha hb hcc hm => ?_)
  have hsz : a.size = s.length := by rw [← ByteArray.size_data, ← Array.length_toList, ha]
  have hbz : b.size = 1 := by rw [← ByteArray.size_data, ← Array.length_toList, hb]; rfl
  have hcz : c.size = 2 := by rw [← ByteArray.size_data, ← Array.length_toList, hcc]; rfl
  have hcnt : Lib.countB a b = Lib.count s [39] := by
    show Lib.count a.data.toList b.data.toList = _
    rw [ha, hb]
  refine (sl_strings_ReplaceAll a b c m w (by omega) hm (by omega) (by rw [hcnt, hcz]; omega)).mono ?_
  rintro e w' ⟨rfl, hbw⟩
  rw [ha, hb, hcc]
  exact ⟨rfl, hbw⟩
theorem tq (n : Int) : n = 10 * n.tdiv 10 + n.tmod 10 ∧ -9 ≤ n.tmod 10 ∧ n.tmod 10 ≤ 9 ∧ (0 ≤ n → 0 ≤ n.tmod 10 ∧ 0 ≤ n.tdiv 10) ∧ (n ≤ 0 → n.tmod 10 ≤ 0 ∧ n.tdiv 10 ≤ 0) := by
  have h := Int.mul_tdiv_add_tmod n 10
  rcases Int.le_total 0 n with h0 | h0
  · have e1 := Int.tdiv_eq_ediv_of_nonneg (b := 10) h0
    have e2 := Int.tmod_eq_emod_of_nonneg (b := 10) h0
    rw [e1, e2] at *
    omega
  · obtain ⟨m, rfl⟩ : ∃ m, n = -m := ⟨-n, by omega⟩
    have hm : 0 ≤ m := by omega
    have e1 := Int.tdiv_eq_ediv_of_nonneg (b := 10) hm
    have e2 := Int.tmod_eq_emod_of_nonneg (b := 10) hm
    rw [Int.neg_tdiv, Int.neg_tmod, e1, e2]
    omega
theorem wrap32 {x : Int} (h : 0 ≤ x) (h2 : x < 1000) : IntKind.i32.wrap x = x := by
  simp [IntKind.wrap, IntKind.signed, IntKind.bits]
  omega
theorem digit_eq {d m : Int} (h : m = 48 + (d.natAbs : Int)) : UInt8.ofNat m.toNat = UInt8.ofNat (48 + d.natAbs) := by
  congr 1; omega
set_option maxHeartbeats 2000000 in
theorem decimal_con : ∀ (f j : Nat) (n : Int), 1 ≤ j → n.natAbs < 10 ^ j → j + (if n < 0 then 1 else 0) ≤ f → f ≤ 1000 → rng n → Con Tryz.prog 77 [.sc (.int .i64 n)] (.ret (.s (decF f n)))
  | 0, j, n, hj, _, hf, _, _ => by omega
  | f + 1, j, n, hj, hn, hf, hf2, hr => by
    refine con_of (by_syntax_Decimal ?_)
    generalize hR : RC _ = R
    have HR := Lib.hid hR; clear hR
    obtain ⟨h1, h2, h3, h4, h5⟩ := tq n
    have IH := Lib.hid (fun j n => decimal_con f j n)
    have HL := Lib.hid (decF_len f)
    unfold rng at hr
    obtain ⟨r1, r2⟩ := hr
    have hd : decF (f + 1) n = if n < 0 ∧ n.tdiv 10 = 0 then 45 :: decF f (-n) else (if n.tdiv 10 ≠ 0 then decF f (n.tdiv 10) else []) ++ [UInt8.ofNat (48 + (n.tmod 10).natAbs)] := rfl
    have hp : 10 ^ j = 10 * 10 ^ (j - 1) := by
      obtain ⟨i, rfl⟩ : ∃ i, j = i + 1 := ⟨j - 1, by omega⟩
      rw [Nat.pow_succ]; simp; omega
    obtain ⟨q, hq⟩ : ∃ q, n.tdiv 10 = q := ⟨_, rfl⟩
    obtain ⟨d, hd0⟩ : ∃ d, n.tmod 10 = d := ⟨_, rfl⟩
    rw [hq, hd0] at hd h1
    rw [hd0] at h2 h3 h4 h5
    rw [hq] at h4 h5
    have b1 : n ≤ 10 * q + d := by omega
    have b2 : 10 * q + d ≤ n := by omega
    have k1 : 0 ≤ 48 + (0 - d) := by omega
    have k2 : 48 + (0 - d) < 128 := by omega
    have k3 : 0 ≤ 48 + d := by omega
    have k4 : 48 + d < 128 := by omega
    have HD := Lib.hid hd; clear hd
    have hq10 : q.natAbs < 10 ^ (j - 1) := by
      rw [hp] at hn
      generalize 10 ^ (j - 1) = P at hn
      omega
    have hj1 : q ≠ 0 → 1 ≤ j - 1 := by
      intro hq0
      rcases Nat.lt_or_ge 1 j with h | h
      · omega
      · have : j - 1 = 0 := by omega
        rw [this] at hq10; simp at hq10; omega
    have HP := Lib.hid (And.intro hn (And.intro hq10 hj1)); clear hn hq10 hj1 hp h1
    by_cases hneg : n < 0
    · rw [if_pos hneg] at hf
      obtain ⟨h51, h52⟩ := h5 (by omega)
      clear h4 h5
      by_cases hq0 : q = 0
      · have hc := Lib.hid (IH.out j (-n) hj (by have := HP.out.1; omega) (by rw [if_neg (by omega)]; omega) (by omega) (by unfold rng; omega))
        have hl : 1 + (decF f (-n)).length ≤ 9223372036854775807 := by have := HL.out (-n); omega
        rw [if_pos ⟨hneg, hq0⟩] at HD
        have e0 : 0 - n = -n := by omega
        have E0 := Lib.hid e0; clear e0
        subst hq0
        clear HP
        simp (maxSteps:=1000000) (disch:=omega) only [sh_syntax_Decimal,decide_true,decide_false,wrap32,go_sem, *]
        rw [E0.out]
        refine CALL_con0 hc.out rfl ?_
        simp (maxSteps:=1000000) (disch:=omega) only [go_sem, *]
        rw [← HR.out]
        exact RC_ret rfl (by rw [HD.out])
      · have hqr : -922337203685477580 ≤ q ∧ q ≤ 0 := by omega
        have hc := Lib.hid (IH.out (j - 1) q (HP.out.2.2 hq0) HP.out.2.1 (by split <;> omega) (by omega) (by unfold rng; omega))
        have hl : (decF f q).length ≤ 9223372036854775806 := by have := HL.out q; omega
        rw [if_neg (by simp [hq0]), if_pos hq0] at HD
        have hdd : d < 0 - d ∨ ¬ d < 0 - d := Classical.em _
        clear HP
        have hm : d.natAbs = (-d).toNat := by omega
        rcases hdd with hdd | hdd
        · simp (maxSteps:=1000000) (disch:=omega) only [sh_syntax_Decimal,decide_true,decide_false,wrap32,go_sem, *]
          refine CALL_con0 hc.out rfl ?_
          simp (maxSteps:=1000000) (disch:=omega) only [go_sem, *]
          rw [← HR.out]
          exact RC_ret rfl (by rw [HD.out, digit_eq (d := d) (by omega)])
        · simp (maxSteps:=1000000) (disch:=omega) only [sh_syntax_Decimal,decide_true,decide_false,wrap32,go_sem, *]
          refine CALL_con0 hc.out rfl ?_
          simp (maxSteps:=1000000) (disch:=omega) only [go_sem, *]
          rw [← HR.out]
          exact RC_ret rfl (by rw [HD.out, digit_eq (d := d) (by omega)])
    · rw [if_neg hneg] at hf
      obtain ⟨h41, h42⟩ := h4 (by omega)
      clear h4 h5
      have hdd : d < 0 - d ∨ ¬ d < 0 - d := Classical.em _
      by_cases hq0 : q = 0
      · rw [if_neg (by simp [hneg]), if_neg (by simp [hq0])] at HD
        clear HP
        subst hq0
        rcases hdd with hdd | hdd
        · omega
        · simp (maxSteps:=1000000) (disch:=omega) only [sh_syntax_Decimal,decide_true,decide_false,wrap32,go_sem, *]
          rw [← HR.out]
          exact RC_ret rfl (by rw [HD.out, digit_eq (d := d) (by omega)]; rfl)
      · have hqr : 0 ≤ q ∧ q ≤ 922337203685477580 := by omega
        have hc := Lib.hid (IH.out (j - 1) q (HP.out.2.2 hq0) HP.out.2.1 (by rw [if_neg (by omega)]; omega) (by omega) (by unfold rng; omega))
        have hl : (decF f q).length ≤ 9223372036854775806 := by have := HL.out q; omega
        rw [if_neg (by simp [hneg]), if_pos hq0] at HD
        clear HP
        rcases hdd with hdd | hdd
        · omega
        · simp (maxSteps:=1000000) (disch:=omega) only [sh_syntax_Decimal,decide_true,decide_false,wrap32,go_sem, *]
          refine CALL_con0 hc.out rfl ?_
          simp (maxSteps:=1000000) (disch:=omega) only [go_sem, *]
          rw [← HR.out]
          exact RC_ret rfl (by rw [HD.out, digit_eq (d := d) (by omega)])
end Go.Proofs.YtodoejfkjimeaaaGreatDoor

set_option linter.unusedSimpArgs false
set_option linter.unusedVariables false
set_option maxRecDepth 100000
namespace Go.Proofs.YtodoejfkjimeaaaGreatDoor
open Go Go.RowKit Am
attribute [local go_sem] wrapI wrapB upd_is upd_not Nat.zero_add Nat.add_zero
attribute [local go_sem_proc] Nat.reduceAdd Nat.reduceSub Nat.reduceMul Nat.reduceLeDiff Nat.reduceEqDiff Int.reduceAdd Int.reduceSub Int.reduceMul Int.reduceNeg Int.reduceLT Int.reduceLE Int.reduceEq Int.reduceToNat reduceCtorEq reduceIte

theorem ixL_here {α : Type} {q : α → Bool} {xs : List α} {i : Nat} {x : α} (hx : xs[i]? = some x) (h0 : (xs.take i).any q = false) (h : q x = true) : ixL q xs = i := by
  obtain ⟨hi, rfl⟩ := List.getElem?_eq_some_iff.1 hx
  refine ixL_at q xs i hi (fun j hj => ?_) h
  rw [List.any_eq_false] at h0
  have := h0 xs[j] (List.mem_iff_getElem?.2 ⟨j, by rw [List.getElem?_take, if_pos hj]; exact List.getElem?_eq_getElem (by omega)⟩)
  simpa using this
theorem ixL_no {α : Type} {q : α → Bool} {xs : List α} (h0 : xs.any q = false) : ixL q xs = -1 := by
  unfold ixL; rw [h0]; rfl
theorem ixCol_con (g : FuncId) (caps : List AV) (q : Cl → Bool) (xs : List Cl) (hc : ∀ σ, brwL σ 6 caps = some (caps, [])) (h : ∀ x ∈ xs, Con Tryz.prog g ([.ag (encC x)] ++ caps) (.ret (.sc (.bool (q x))))) :
    Con Tryz.prog 78 [.tr (xs.map encC), .fn g caps] (.ret (.sc (.int .i64 (ixL q xs)))) := by
  refine con_of (by_slices_IndexFunc_lapi_Column_api_Column ?_)
  have H := Lib.hid h; clear h
  have HC := Lib.hid hc; clear hc
  simp (contextual:=true) (maxSteps:=1000000) (disch:=omega) only [sh_slices_IndexFunc_lapi_Column_api_Column,go_sem, *]
  intro hl
  refine LOOP_list xs (fun i s => (xs.take i).any q = false ∧ ∃ a b c d, s = [a, b, c, d, .sc (.int .i64 i)]) ⟨rfl, _, _, _, _, rfl⟩ ?_ ?_
  · rintro i x K s' n' hx hi hi' hn ⟨h0, a, b, c, d, rfl⟩ hK
    have HK := Lib.hid hK; clear hK
    have HX := Lib.hid hx
    simp (contextual:=true) (maxSteps:=1000000) (disch:=omega) only [lb_slices_IndexFunc_lapi_Column_api_Column2,encC,go_sem, *]
    refine CALL_con0 (H.out x (List.mem_of_getElem? hx)) (by simp only [encC, List.cons_append, List.nil_append, brwL_cons, brw_ag, brw_s, brw_sc, brwL_nil, HC.out, Option.map_some, List.append_nil]) ?_
    cases hq : q x with
    | true =>
      simp (contextual:=true) (maxSteps:=1000000) (disch:=omega) only [go_sem, *]
      exact RC_ret rfl (by rw [ixL_here hx h0 hq])
    | false =>
      simp (contextual:=true) (maxSteps:=1000000) (disch:=omega) only [go_sem, *]
      exact HK.out _ _ (Nat.le_refl _) ⟨by rw [any_take hx, h0, hq]; rfl, _, _, _, _, rfl⟩
  · rintro K s' n' hn ⟨h0, a, b, c, d, rfl⟩
    rw [List.take_length] at h0
    simp (contextual:=true) (maxSteps:=1000000) (disch:=omega) only [lb_slices_IndexFunc_lapi_Column_api_Column2,go_sem, *]
    exact RC_ret rfl (by rw [ixL_no h0])
end Go.Proofs.YtodoejfkjimeaaaGreatDoor

set_option linter.unusedSimpArgs false
set_option linter.unusedVariables false
set_option maxRecDepth 100000
namespace Go.Proofs.YtodoejfkjimeaaaGreatDoor
open Go Go.RowKit Am

end Go.Proofs.YtodoejfkjimeaaaGreatDoor

set_option linter.unusedSimpArgs false
set_option linter.unusedVariables false
set_option maxRecDepth 100000
namespace Go.Proofs.YtodoejfkjimeaaaGreatDoor
open Go Go.RowKit Am

theorem encT_len (t : Tb) : (encT t).length = 4 := rfl
theorem encC_len (c : Cl) : (encC c).length = 3 := rfl
attribute [go_sem] encT_len encC_len
structure Pl where
  found : Int
  known : Bool
  at_ : Int
  kind : Int
  base : Int
end Go.Proofs.YtodoejfkjimeaaaGreatDoor

set_option linter.unusedSimpArgs false
set_option linter.unusedVariables false
set_option maxRecDepth 100000
namespace Go.Proofs.YtodoejfkjimeaaaGreatDoor
open Go Go.RowKit Am

theorem encE_brw (σ : Hp) (d : Nat) (e : Ep) : brwL σ d (encE e) = some (encE e, []) := by
  simp only [brwL_cons, brwL_nil, brw_ag, brw_sc, brw_tr, encE_eq, brw_s, List.append_nil, Option.map_some, List.nil_append]
attribute [go_sem] encE_brw
inductive Gd : Ep → Prop
  | mk (e : Ep) (h : partOk e = true) (ha : ∀ a ∈ e.args, Gd a) : Gd e
theorem partOk_args {e : Ep} (h : partOk e = true) : (argsN e.op).2 = true ∧ (argsN e.op).1 = (e.args.length : Int) := by
  unfold partOk at h
  rw [Bool.and_eq_true, Bool.and_eq_true] at h
  exact ⟨h.1.1, of_decide_eq_true h.1.2⟩
end Go.Proofs.YtodoejfkjimeaaaGreatDoor

set_option linter.unusedSimpArgs false
set_option linter.unusedVariables false
set_option maxRecDepth 100000
namespace Go.Proofs.YtodoejfkjimeaaaGreatDoor
open Go Go.RowKit Am
attribute [-go_sem] guardP_if guardK_if guardD_if COND_bool
attribute [local go_sem low] guardP_if guardK_if guardD_if COND_bool
attribute [local go_sem] wrapI wrapB upd_is upd_not Nat.zero_add Nat.add_zero
attribute [local go_sem_proc] Nat.reduceAdd Nat.reduceSub Nat.reduceMul Nat.reduceLeDiff Nat.reduceEqDiff Int.reduceAdd Int.reduceSub Int.reduceMul Int.reduceNeg Int.reduceLT Int.reduceLE Int.reduceEq Int.reduceToNat reduceCtorEq reduceIte
attribute [-go_sem] binS_add

theorem bindP_add {a b : List UInt8} {f : AV → Prop} (h : a.length + b.length ≤ 9223372036854775807) : bindP (semBin .add (.s a) (.s b)) f = f (.s (a ++ b)) := by
  rw [binS_add, if_pos h]; rfl
theorem literal_con (kind n : Int) (text : Tx) (h2 : kind = 2 → n = 0 ∨ n = 1) (hr : rng n) (ht : text.length ≤ 1048576) : Con Tryz.prog 73 [.ag [.sc (.int .i64 kind), .sc (.int .i64 n), .s text]] (.ret (.s (litF kind n text))) := by
  refine con_of (by_syntax_Literal ?_)
  generalize hR : RC _ = R
  have HR := Lib.hid hR; clear hR
  have HD := Lib.hid (decimal_con 40 19 n (by omega) (by unfold rng at hr; omega) (by split <;> omega) (by omega) hr)
  have HRp := Lib.hid (replace_con text ht)
  have hl := replace_len (count_le text)
  clear hr
  by_cases g0 : kind = 0
  · simp (maxSteps:=1000000) (disch:=omega) only [sh_syntax_Literal,decide_true,decide_false,go_sem, *]
    rw [← HR.out]; exact RC_ret rfl (by rw [litF, if_pos g0])
  · by_cases g1 : kind = 1
    · simp (maxSteps:=1000000) (disch:=omega) only [sh_syntax_Literal,decide_true,decide_false,go_sem, *]
      refine CALL_con0 HD.out rfl ?_
      simp (maxSteps:=1000000) (disch:=omega) only [go_sem, *]
      rw [← HR.out]; exact RC_ret rfl (by rw [litF, if_neg g0, if_pos g1])
    · by_cases g2 : kind = 2
      · rcases h2 g2 with rfl | rfl
        · have c2 : ((2 : Nat) : Int) = 2 := rfl
          simp (maxSteps:=1000000) (disch:=omega) only [sh_syntax_Literal,decide_true,decide_false,c2,go_sem, *]
          rw [← HR.out]; exact RC_ret rfl (by rw [litF, if_neg g0, if_neg g1, if_pos g2]; rfl)
        · have c2 : ((2 : Nat) : Int) = 2 := rfl
          simp (maxSteps:=1000000) (disch:=omega) only [sh_syntax_Literal,decide_true,decide_false,c2,go_sem, *]
          rw [← HR.out]; exact RC_ret rfl (by rw [litF, if_neg g0, if_neg g1, if_pos g2]; rfl)
      · clear h2
        simp (maxSteps:=1000000) (disch:=omega) only [sh_syntax_Literal,decide_true,decide_false,go_sem, *]
        refine CALL_con0 HRp.out rfl ?_
        generalize hrr : Lib.replaceAll text [39] [39, 39] = rr at *
        simp (maxSteps:=1000000) (disch:=omega) only [go_sem, *]
        rw [bindP_add (by simp only [List.length_cons, List.length_nil]; omega)]
        rw [bindP_add (by simp only [List.length_append, List.length_cons, List.length_nil]; omega)]
        rw [← HR.out]; exact RC_ret rfl (by rw [litF, if_neg g0, if_neg g1, if_neg g2, hrr])
theorem valOk_two {kind n : Int} {text : Tx} (h : valOk kind n text = true) (hr : rng n) (h2 : kind = 2) : n = 0 ∨ n = 1 := by
  subst h2
  unfold rng at hr
  simp [valOk] at h
  have := h.2
  simp [IntKind.wrap, IntKind.signed, IntKind.bits] at this
  omega
theorem bindP_eqI (k : IntKind) (a b : Int) (f : AV → Prop) : bindP (semBin .eql (.sc (.int k a)) (.sc (.int k b))) f = f (.sc (.bool (decide (a = b)))) := by
  rw [bin_eql]; rfl
theorem bindP_ltI (k : IntKind) (a b : Int) (f : AV → Prop) : bindP (semBin .lss (.sc (.int k a)) (.sc (.int k b))) f = f (.sc (.bool (decide (a < b)))) := by
  rw [bin_lss]; rfl
theorem COND_no {p : Prop} [Decidable p] (h : ¬ p) (A B : Prop) : COND (.sc (.bool (decide p))) A B = B := by
  rw [decide_eq_false h]; exact COND_false A B
theorem COND_yes {p : Prop} [Decidable p] (h : p) (A B : Prop) : COND (.sc (.bool (decide p))) A B = A := by
  rw [decide_eq_true h]; exact COND_true A B
def sgA : List AV := [.s [43], .s [45], .s [42], .s [47], .s [61], .s [60, 62], .s [60], .s [60, 61], .s [62], .s [62, 61], .s [65, 78, 68], .s [79, 82]]
def zA : List AV := [.s [], .s [], .s [], .s [], .s [], .s [], .s [], .s [], .s [], .s [], .s [], .s []]
theorem sgA_len : sgA.length = 12 := rfl
theorem zA_len : zA.length = 12 := rfl
theorem sgA_leaf : sgA.all leafok = true := rfl
theorem zA_drop : zA.drop 12 = [] := rfl
theorem sgA_cells : (AV.ag sgA).cells = some sgA := rfl
theorem sgA_0 : sgA[0]? = some (.s [43]) := rfl
theorem sgA_1 : sgA[1]? = some (.s [45]) := rfl
theorem sgA_2 : sgA[2]? = some (.s [42]) := rfl
theorem sgA_3 : sgA[3]? = some (.s [47]) := rfl
theorem sgA_4 : sgA[4]? = some (.s [61]) := rfl
theorem sgA_5 : sgA[5]? = some (.s [60, 62]) := rfl
theorem sgA_6 : sgA[6]? = some (.s [60]) := rfl
theorem sgA_7 : sgA[7]? = some (.s [60, 61]) := rfl
theorem sgA_8 : sgA[8]? = some (.s [62]) := rfl
theorem sgA_9 : sgA[9]? = some (.s [62, 61]) := rfl
theorem sgA_10 : sgA[10]? = some (.s [65, 78, 68]) := rfl
theorem sgA_11 : sgA[11]? = some (.s [79, 82]) := rfl
set_option maxHeartbeats 8000000 in
theorem printed_con : ∀ (k : Nat) (e : Ep), k ≤ 12 → OKk k e → Bd e → Rg e → Con Tryz.prog 44 [.ag (encE e)] (.ret (.s (printF e)))
  | 0, e, _, h, _, _ => h.elim
  | k + 1, e, hk, hok, hb, hrg => by
    refine con_of (by_syntax_printed ?_)
    generalize hR : RC _ = R
    have HR := Lib.hid hR; clear hR
    have hpe := printF_eq e
    have hlen : ∀ a ∈ e.args, (printF a).length ≤ 17000000000 := by
      intro a ha
      obtain ⟨i, hi⟩ := List.mem_iff_getElem?.1 ha
      have := print_len k a (hok.2 a ha) (hb.arg hi)
      have h2 : 2 ^ k ≤ 2 ^ 11 := Nat.pow_le_pow_right (by omega) (by omega)
      omega
    have IH := Lib.hid (fun a (ha : a ∈ e.args) => printed_con k a (by omega) (hok.2 a ha) (by
      obtain ⟨i, hi⟩ := List.mem_iff_getElem?.1 ha
      exact hb.arg hi) (by
      obtain ⟨i, hi⟩ := List.mem_iff_getElem?.1 ha
      exact hrg.arg hi))
    have hpo := hok.1
    have hrn : rng e.n := by cases hrg with | mk e h ha => exact h
    cases hb with
    | mk op kind n text table name args hb1 hb2 hb3 hb4 hb5 =>
    simp only [Ep.op, Ep.kind, Ep.n, Ep.text, Ep.table, Ep.name, Ep.args] at hpe hlen IH hrn
    have harg : argsN op = ((args.length : Int), true) := by
      have h := hpo
      simp only [partOk, Ep.op, Ep.args, Bool.and_eq_true, decide_eq_true_eq] at h
      exact Prod.ext (of_decide_eq_true h.1.2) h.1.1
    have hval : op = 0 → valOk kind n text = true := by
      intro h0
      subst h0
      simp only [partOk, Ep.op, Ep.kind, Ep.n, Ep.text, Ep.table, Ep.name, Ep.args, if_true, Bool.and_eq_true] at hpo
      exact hpo.2.1.2
    clear hok hrg hb5 hpo
    have HPE := Lib.hid hpe; clear hpe
    have hal := args_two harg
    have HARG := Lib.hid harg; clear harg
    have HLEN := Lib.hid hlen; clear hlen
    have HVAL := Lib.hid (fun h0 => literal_con kind n text (fun h2 => valOk_two (hval h0) hrn h2) hrn hb1); clear hval hrn
    simp (maxSteps:=1000000) (disch:=omega) only [sh_syntax_printed,encE_eq,Ep.op,Ep.kind,Ep.n,Ep.text,Ep.table,Ep.name,Ep.args,go_sem, *]
    intro _
    refine LOOP_listM args (fun i s σ' n' => ∃ a b lv, s = [a, b, lv, .sc (.int .i64 i)] ∧ 16 ≤ n' ∧ σ' 0 = some (.c ⟨7, [[.sc (.int .i64 op), .sc (.int .i64 kind), .sc (.int .i64 n), .s text, .s table, .s name, .tr (args.map encE)]], true, false⟩) ∧
        ((i = 0 ∧ lv = .em) ∨ ∃ i1, i1 < n' ∧ 0 < i1 ∧ lv = .ow i1 1 0 i ∧ σ' i1 = some (.c ⟨1, (args.take i).map fun a => [.s (printF a)], true, true⟩)))
      (.refl ⟨_, _, _, rfl, by omega, ?_, .inl ⟨rfl, rfl⟩⟩) ?_ ?_
    · simp (disch := omega) only [upd_is]
    · rintro i x K s σ n2 hx hi hi' hn ⟨a, b, lv, rfl, hn2, h0, hlv⟩ hK
      have HK := Lib.hid hK; clear hK
      have HC := Lib.hid (IH.out x (List.mem_of_getElem? hx))
      have ht : ((args.take (i + 1)).map fun a => [AV.s (printF a)]) = ((args.take i).map fun a => [AV.s (printF a)]) ++ [[.s (printF x)]] := by rw [List.take_add_one, hx, List.map_append]; rfl
      have HT := Lib.hid ht; clear ht
      rcases hlv with ⟨rfl, rfl⟩ | ⟨i1, hl1, hg1, rfl, hs1⟩
      · simp (maxSteps:=1000000) (disch:=omega) only [lb_syntax_printed5,go_sem, *]
        refine CALL_con0 HC.out (by simp only [List.append_nil, brwL_cons, brwL_nil, brw_ag, encE_brw, Option.map_some]) ?_
        simp (maxSteps:=1000000) (disch:=omega) only [go_sem, *]
        refine HK.out _ _ _ (.refl ⟨_, _, .ow (n2 + 16 + 16 + 16) 1 0 (0 + 1), rfl, by omega, ?_, .inr ⟨n2 + 16 + 16 + 16, by omega, by omega, rfl, ?_⟩⟩)
        · simp (disch := omega) only [upd_not]; exact h0
        · rw [HT.out]; simp (disch := omega) only [upd_not, upd_is]; rfl
      · have hl : (List.take i args).length = i := by rw [List.length_take]; omega
        have c1 : (i + 1) * 16 ≤ 140737488355328 := by omega
        have c2 : ¬ i1 = n2 + 16 + 16 + 16 := by omega
        have c3 : ¬ i1 = n2 + 16 + 16 := by omega
        simp (maxSteps:=1000000) (disch:=omega) only [lb_syntax_printed5,go_sem, *]
        refine CALL_con0 HC.out (by simp only [List.append_nil, brwL_cons, brwL_nil, brw_ag, encE_brw, Option.map_some]) ?_
        simp (maxSteps:=1000000) (disch:=omega) only [go_sem, *]
        refine HK.out _ _ _ (.refl ⟨_, _, .ow (n2 + 16 + 16 + 16) 1 0 (i + 1), rfl, by omega, ?_, .inr ⟨n2 + 16 + 16 + 16, by omega, by omega, rfl, ?_⟩⟩)
        · simp (disch := omega) only [upd_not]; exact h0
        · rw [HT.out]; simp (disch := omega) only [upd_not, upd_is]
    · rintro K s σ n2 hn ⟨a, b, lv, rfl, hn2, h0, hlv⟩
      rw [List.take_length] at hlv
      have c1 : ((1 : Nat) : Int) = 1 := rfl
      have c2 : ((2 : Nat) : Int) = 2 := rfl
      have c4 : ((4 : Nat) : Int) = 4 := rfl
      have c12 : ((12 : Nat) : Int) = 12 := rfl
      rw [lb_syntax_printed5]
      simp only [List.getD_cons_succ, List.getD_cons_zero]
      rw [bindP_ltI, COND_no (Int.lt_irrefl _)]
      rw [show aFad 0 (.rf 0 7 0 0) = some (.rf 0 7 0 0) from rfl, bindP_some]
      rw [show aLd σ none (.rf 0 7 0 0) = some (.sc (.int .i64 op)) from by simp only [aLd, h0]; rfl, bindP_some]
      rcases args with _ | ⟨x, _ | ⟨y, _ | ⟨z, r⟩⟩⟩
      · have ho : op = 0 ∨ op = 1 ∨ op = 18 := by
          have h := HARG.out
          unfold argsN at h
          split at h
          · assumption
          · split at h <;> simp at h
        clear hlv HARG
        rcases ho with rfl | rfl | rfl
        · have HV := Lib.hid (HVAL.out rfl); clear HVAL
          rw [bindP_eqI, COND_yes rfl]
          simp (maxSteps:=1000000) (disch:=omega) only [go_sem, *]
          refine CALL_con0 HV.out (by simp only [List.append_nil, brwL_cons, brwL_nil, brw_ag, brw_s, brw_sc, Option.map_some]) ?_
          simp (maxSteps:=1000000) (disch:=omega) only [go_sem, *]
          rw [← HR.out]; exact RC_ret rfl (by rw [HPE.out]; rfl)
        · have HTr := Lib.hid (trim_con (table ++ [46] ++ name) [46] (by simp; omega)); clear HVAL
          rw [bindP_eqI, COND_no (by omega)]
          rw [bindP_eqI, COND_yes rfl]
          simp (maxSteps:=1000000) (disch:=omega) only [go_sem, *]
          rw [bindP_add (by simp only [List.length_cons, List.length_nil]; omega)]
          rw [bindP_add (by simp only [List.length_append, List.length_cons, List.length_nil]; omega)]
          refine CALL_con0 HTr.out rfl ?_
          simp (maxSteps:=1000000) (disch:=omega) only [go_sem, *]
          rw [← HR.out]; exact RC_ret rfl (by rw [HPE.out]; rfl)
        · clear HVAL
          rw [bindP_eqI, COND_no (by omega)]
          rw [bindP_eqI, COND_no (by omega)]
          rw [bindP_eqI, COND_no (by omega)]
          rw [bindP_eqI, COND_no (by omega)]
          rw [bindP_eqI, COND_no (by omega)]
          rw [bindP_eqI, COND_no (by omega)]
          rw [bindP_eqI, COND_yes rfl]
          rw [← HR.out]; exact RC_ret rfl (by rw [HPE.out]; rfl)
      · have ho : op = 2 ∨ op = 3 ∨ op = 16 ∨ op = 17 ∨ op = 19 ∨ op = 20 ∨ op = 21 ∨ op = 22 := by
          have h := HARG.out
          unfold argsN at h
          split at h
          · simp at h
          · split at h
            · assumption
            · simp at h
        clear HARG HVAL
        obtain ⟨i1, hl1, hg1, rfl, hs1⟩ : ∃ i1, i1 < n2 ∧ 0 < i1 ∧ lv = .ow i1 1 0 1 ∧ σ i1 = some (.c ⟨1, [[.s (printF x)]], true, true⟩) := by
          rcases hlv with ⟨h, _⟩ | h
          · simp at h
          · exact h
        have hx := HLEN.out x (by simp)
        clear HLEN hlv
        rcases ho with rfl | rfl | rfl | rfl | rfl | rfl | rfl | rfl
        · have HP := Lib.hid (HPE.out); clear HPE
          rw [bindP_eqI, COND_no (by omega)]
          rw [bindP_eqI, COND_no (by omega)]
          rw [bindP_eqI, COND_yes rfl]
          simp (maxSteps:=1000000) (disch:=omega) only [go_sem, *]
          rw [bindP_add (by simp only [List.length_cons, List.length_nil]; omega)]
          rw [bindP_add (by simp only [List.length_append, List.length_cons, List.length_nil]; omega)]
          rw [← HR.out]; exact RC_ret rfl (by rw [HP.out]; rfl)
        · have HP := Lib.hid (HPE.out); clear HPE
          rw [bindP_eqI, COND_no (by omega)]
          rw [bindP_eqI, COND_no (by omega)]
          rw [bindP_eqI, COND_no (by omega)]
          rw [bindP_eqI, COND_yes rfl]
          simp (maxSteps:=1000000) (disch:=omega) only [go_sem, *]
          rw [bindP_add (by simp only [List.length_cons, List.length_nil]; omega)]
          rw [bindP_add (by simp only [List.length_append, List.length_cons, List.length_nil]; omega)]
          rw [← HR.out]; exact RC_ret rfl (by rw [HP.out]; rfl)
        · have HP := Lib.hid (HPE.out); clear HPE
          rw [bindP_eqI, COND_no (by omega)]
          rw [bindP_eqI, COND_no (by omega)]
          rw [bindP_eqI, COND_no (by omega)]
          rw [bindP_eqI, COND_no (by omega)]
          rw [bindP_eqI, COND_yes rfl]
          simp (maxSteps:=1000000) (disch:=omega) only [go_sem, *]
          rw [bindP_add (by simp only [List.length_cons, List.length_nil]; omega)]
          rw [bindP_add (by simp only [List.length_append, List.length_cons, List.length_nil]; omega)]
          rw [← HR.out]; exact RC_ret rfl (by rw [HP.out]; rfl)
        · have HP := Lib.hid (HPE.out); clear HPE
          rw [bindP_eqI, COND_no (by omega)]
          rw [bindP_eqI, COND_no (by omega)]
          rw [bindP_eqI, COND_no (by omega)]
          rw [bindP_eqI, COND_no (by omega)]
          rw [bindP_eqI, COND_no (by omega)]
          rw [bindP_eqI, COND_yes rfl]
          simp (maxSteps:=1000000) (disch:=omega) only [go_sem, *]
          rw [bindP_add (by simp only [List.length_cons, List.length_nil]; omega)]
          rw [bindP_add (by simp only [List.length_append, List.length_cons, List.length_nil]; omega)]
          rw [← HR.out]; exact RC_ret rfl (by rw [HP.out]; rfl)
        · have HP := Lib.hid (HPE.out); clear HPE
          rw [bindP_eqI, COND_no (by omega)]
          rw [bindP_eqI, COND_no (by omega)]
          rw [bindP_eqI, COND_no (by omega)]
          rw [bindP_eqI, COND_no (by omega)]
          rw [bindP_eqI, COND_no (by omega)]
          rw [bindP_eqI, COND_no (by omega)]
          rw [bindP_eqI, COND_no (by omega)]
          rw [JOIN_eq]
          rw [bindP_eqI, COND_yes rfl]
          rw [jk_syntax_printed4]
          simp only [List.getD_cons_zero, List.getD_cons_succ]
          rw [COND_yes (by trivial)]
          repeat (first | rw [bindP_add (by simp only [List.length_append, List.length_cons, List.length_nil]; omega)] | simp (maxSteps:=1000000) (disch:=omega) only [c4,go_sem, *])
          refine fun n_ hn_ => ?_
          rw [← HR.out]; exact RC_ret rfl (by rw [HP.out]; rfl)
        · have HP := Lib.hid (HPE.out); clear HPE
          rw [bindP_eqI, COND_no (by omega)]
          rw [bindP_eqI, COND_no (by omega)]
          rw [bindP_eqI, COND_no (by omega)]
          rw [bindP_eqI, COND_no (by omega)]
          rw [bindP_eqI, COND_no (by omega)]
          rw [bindP_eqI, COND_no (by omega)]
          rw [bindP_eqI, COND_no (by omega)]
          rw [JOIN_eq]
          rw [bindP_eqI, COND_no (by omega)]
          rw [bindP_eqI, COND_yes rfl]
          rw [jk_syntax_printed4]
          simp only [List.getD_cons_zero, List.getD_cons_succ]
          rw [COND_yes (by trivial)]
          repeat (first | rw [bindP_add (by simp only [List.length_append, List.length_cons, List.length_nil]; omega)] | simp (maxSteps:=1000000) (disch:=omega) only [c4,go_sem, *])
          refine fun n_ hn_ => ?_
          rw [← HR.out]; exact RC_ret rfl (by rw [HP.out]; rfl)
        · have HP := Lib.hid (HPE.out); clear HPE
          rw [bindP_eqI, COND_no (by omega)]
          rw [bindP_eqI, COND_no (by omega)]
          rw [bindP_eqI, COND_no (by omega)]
          rw [bindP_eqI, COND_no (by omega)]
          rw [bindP_eqI, COND_no (by omega)]
          rw [bindP_eqI, COND_no (by omega)]
          rw [bindP_eqI, COND_no (by omega)]
          rw [JOIN_eq]
          rw [bindP_eqI, COND_no (by omega)]
          rw [bindP_eqI, COND_no (by omega)]
          rw [bindP_eqI, COND_yes rfl]
          rw [jk_syntax_printed4]
          simp only [List.getD_cons_zero, List.getD_cons_succ]
          rw [COND_yes (by trivial)]
          repeat (first | rw [bindP_add (by simp only [List.length_append, List.length_cons, List.length_nil]; omega)] | simp (maxSteps:=1000000) (disch:=omega) only [c4,go_sem, *])
          refine fun n_ hn_ => ?_
          rw [← HR.out]; exact RC_ret rfl (by rw [HP.out]; rfl)
        · have HP := Lib.hid (HPE.out); clear HPE
          rw [bindP_eqI, COND_no (by omega)]
          rw [bindP_eqI, COND_no (by omega)]
          rw [bindP_eqI, COND_no (by omega)]
          rw [bindP_eqI, COND_no (by omega)]
          rw [bindP_eqI, COND_no (by omega)]
          rw [bindP_eqI, COND_no (by omega)]
          rw [bindP_eqI, COND_no (by omega)]
          rw [JOIN_eq]
          rw [bindP_eqI, COND_no (by omega)]
          rw [bindP_eqI, COND_no (by omega)]
          rw [bindP_eqI, COND_no (by omega)]
          rw [bindP_eqI]
          rw [jk_syntax_printed4]
          simp only [List.getD_cons_zero, List.getD_cons_succ]
          rw [COND_yes (by trivial)]
          repeat (first | rw [bindP_add (by simp only [List.length_append, List.length_cons, List.length_nil]; omega)] | simp (maxSteps:=1000000) (disch:=omega) only [c4,go_sem, *])
          refine fun n_ hn_ => ?_
          rw [← HR.out]; exact RC_ret rfl (by rw [HP.out]; rfl)
      · have ho : 4 ≤ op ∧ op < 16 := by
          have h := HARG.out
          unfold argsN at h
          split at h
          · simp at h
          · split at h
            · simp at h
            · simp only [Prod.mk.injEq, Bool.and_eq_true, decide_eq_true_eq] at h
              exact h.2
        clear HARG HVAL
        obtain ⟨i1, hl1, hg1, rfl, hs1⟩ : ∃ i1, i1 < n2 ∧ 0 < i1 ∧ lv = .ow i1 1 0 2 ∧ σ i1 = some (.c ⟨1, [[.s (printF x)], [.s (printF y)]], true, true⟩) := by
          rcases hlv with ⟨h, _⟩ | h
          · simp at h
          · exact h
        have hx := HLEN.out x (by simp)
        have hy := HLEN.out y (by simp)
        clear HLEN hlv
        rw [bindP_eqI, COND_no (by omega)]
        rw [bindP_eqI, COND_no (by omega)]
        rw [bindP_eqI, COND_no (by omega)]
        rw [bindP_eqI, COND_no (by omega)]
        rw [bindP_eqI, COND_no (by omega)]
        rw [bindP_eqI, COND_no (by omega)]
        rw [bindP_eqI, COND_no (by omega)]
        rw [JOIN_eq]
        rw [bindP_eqI, COND_no (by omega)]
        rw [bindP_eqI, COND_no (by omega)]
        rw [bindP_eqI, COND_no (by omega)]
        rw [bindP_eqI, jk_syntax_printed4]
        simp only [List.getD_cons_zero, List.getD_cons_succ]
        rw [COND_no (by omega)]
        change bindP (some (AV.ag sgA)) _
        rw [bindP_some]
        change bindS (some (AV.rf n2 12 0 0, [(n2, some (Ob.c ⟨12, [zA], true, false⟩))])) σ n2 _
        have g1 : ¬ i1 = n2 := by omega
        rcases (show op = 4 ∨ op = 5 ∨ op = 6 ∨ op = 7 ∨ op = 8 ∨ op = 9 ∨ op = 10 ∨ op = 11 ∨ op = 12 ∨ op = 13 ∨ op = 14 ∨ op = 15 by omega) with rfl | rfl | rfl | rfl | rfl | rfl | rfl | rfl | rfl | rfl | rfl | rfl
        all_goals
          clear ho
          repeat (first | rw [bindP_add (by simp only [List.length_append, List.length_cons, List.length_nil]; omega)] | simp (maxSteps:=1000000) (disch:=omega) only [c12,c2,sgA_len,zA_len,sgA_leaf,zA_drop,sgA_cells,sgA_0,sgA_1,sgA_2,sgA_3,sgA_4,sgA_5,sgA_6,sgA_7,sgA_8,sgA_9,sgA_10,sgA_11,go_sem, *])
          refine fun n_ hn_ => ?_
          rw [← HR.out]; exact RC_ret rfl (by rw [HPE.out]; exact congrArg _ (by simp [putF, signF]))
      · simp only [List.length_cons] at hal; omega
end Go.Proofs.YtodoejfkjimeaaaGreatDoor

set_option linter.unusedSimpArgs false
set_option linter.unusedVariables false
set_option maxRecDepth 100000
namespace Go.Proofs.YtodoejfkjimeaaaGreatDoor
open Go Go.RowKit Am
attribute [-go_sem] guardP_if guardK_if guardD_if COND_bool
attribute [local go_sem low] guardP_if guardK_if guardD_if COND_bool
abbrev PRT : Nat := 55
theorem prt_lies : liesAt Tryz.prog Tryz.prog.depth PRT (2 / Tryz.prog.cellsOf PRT) 0 53 1 = true := by kernel_rfl
structure BldS (σ : Hp) (n i j : Nat) (l : Tx) : Prop where
  lt : i < n
  jlt : j < n
  here : (l = [] ∧ σ i = some (.c ⟨2, [[.sc (.pointer none), .em]], true, false⟩)) ∨ (l = [] ∧ σ i = some (.c ⟨2, [[.rt i 2 PRT, .em]], true, false⟩)) ∨
    (l ≠ [] ∧ j ≠ i ∧ σ i = some (.c ⟨2, [[.rt i 2 PRT, .ob j l.length]], true, false⟩) ∧ σ j = some (.c ⟨1, byteRows l, true, true⟩))
def BPost (σ : Hp) (n i j : Nat) (l : Tx) (r0 : AEnd) : AEnd → Hp → Nat → Prop := fun r σ' n' => r = r0 ∧ ∃ j', (j' = j ∨ n ≤ j') ∧ BldS σ' n' i j' l ∧ ∀ k, k < n → k ≠ i → k ≠ j → σ' k = σ k
theorem byteRows_append (l m : Tx) : byteRows (l ++ m) = byteRows l ++ byteRows m := List.map_append
theorem hAps_fst (σ : Hp) (n : Nat) (l : Tx) (hl : l ≠ []) (hb : l.length ≤ 140737488355328) : hAps σ n 1 .em (.s l) = some (.ob n l.length, [(n, some (.c ⟨1, byteRows l, true, true⟩))]) := by
  rw [hAps_em, if_pos (by omega)]
  cases l with
  | nil => exact absurd rfl hl
  | cons b l => rfl
theorem hAps_nil (σ : Hp) (n : Nat) : hAps σ n 1 .em (.s []) = some (.em, []) := by
  rw [hAps_em, if_pos (by simp)]
theorem hAps_snd (σ : Hp) (n j : Nat) (l m : Tx) (hj : σ j = some (.c ⟨1, byteRows l, true, true⟩)) (hn : j ≠ n) (h0 : l ≠ []) (hb : (l ++ m).length ≤ 140737488355328) :
    hAps σ n 1 (.ob j l.length) (.s m) = some (.ob n (l ++ m).length, [(j, none), (n, some (.c ⟨1, byteRows (l ++ m), true, true⟩))]) := by
  have hp : 0 < l.length := List.length_pos_iff.2 h0
  rw [List.length_append] at hb
  rw [hAps_ob, hj]
  simp only
  rw [if_pos ⟨by trivial, by trivial, by trivial, byteRows_len l, by omega, hn, by omega⟩, byteRows_append, List.length_append]
set_option maxHeartbeats 2000000 in
theorem writeString_conH (i j : Nat) (l m : Tx) (σ : Hp) (n : Nat) (hb : BldS σ n i j l) (hlen : (l ++ m).length ≤ 140737488355328) :
    ConH Tryz.prog 72 [.rt i 2 PRT, .s m] σ n (BPost σ n i j (l ++ m) (.ret (.tp [.sc (.int .i64 m.length), .sc .nilIface]))) := by
  refine ConH.fresh (by kernel_rfl) fun hfresh => ?_
  refine by_pstrings_Builder_WriteString ?_
  have hi := hb.lt
  have hj1 := hb.jlt
  rw [sh_pstrings_Builder_WriteString]
  have rest : ∀ (τ : Hp) (v : AV) (n' : Nat), n + 16 ≤ n' → τ i = some (.c ⟨2, [[.rt i 2 PRT, v]], true, false⟩) → (∀ k, k ≠ i → τ k = σ k) → ((l = [] ∧ v = .em) ∨ (l ≠ [] ∧ j ≠ i ∧ v = .ob j l.length ∧ τ j = some (.c ⟨1, byteRows l, true, true⟩))) →
      kc_pstrings_Builder_WriteString1 (.rt i 2 PRT) (.s m) (BPost σ n i j (l ++ m) (.ret (.tp [.sc (.int .i64 m.length), .sc .nilIface]))) (.ret (.tp [])) τ n' := by
    intro τ v n' hn' hi0 hk hv
    rw [kc_pstrings_Builder_WriteString1, onEnd_ret, aNck_rt, bindP_some, aFad_rt, if_neg (by omega), bindP_some, aLd_rf, hi0]
    simp only [if_true, List.getElem?_cons_zero, part_none, List.getElem?_cons_succ, bindP_some]
    have fin : ∀ (v' : AV) (wr : Wr), hAps τ n' 1 v (.s m) = some (v', wr) → leafok v' = true → v'.cells = some [v'] → applyW τ wr i = some (.c ⟨2, [[.rt i 2 PRT, v]], true, false⟩) →
        (∀ (ρ : Hp), ρ i = some (.c ⟨2, [[.rt i 2 PRT, v']], true, false⟩) → (∀ k, k ≠ i → ρ k = applyW τ wr k) → ∃ j', (j' = j ∨ n ≤ j') ∧ BldS ρ (n' + 16 + 16) i j' (l ++ m) ∧ ∀ k, k < n → k ≠ i → k ≠ j → ρ k = σ k) →
        bindS (hAps τ n' 1 v (.s m)) τ n' fun v6 σ_1 n_1 => bindP (aNck (.rt i 2 PRT)) fun v7 => bindP (aFad 1 v7) fun v8 => bindS (hSt σ_1 1 v8 v6) σ_1 n_1 fun v9 σ_2 n_2 => bindP (aLen true (.s m)) fun v10 => bnd σ_2 (.s m) →
          BPost σ n i j (l ++ m) (.ret (.tp [.sc (.int .i64 m.length), .sc .nilIface])) (.ret (.tp [v10, .sc .nilIface])) σ_2 n_2 := by
      intro v' wr h1 h2 h3 h4 h5
      rw [h1, bindS_some, aNck_rt, bindP_some, aFad_rt, if_neg (by omega), bindP_some, hSt_rf, h4]
      have hcl : (AV.rt i 2 PRT).cells = some [.rt i 2 PRT] := rfl
      simp only [h3, List.getElem?_cons_zero, and_self, if_true, List.length_cons, List.length_nil, List.all_cons, List.all_nil, h2, Bool.and_self]
      rw [if_pos ⟨by trivial, by omega, trivial⟩, bindS_some, aLen_s, bindP_some]
      intro _
      refine ⟨rfl, h5 _ ?_ (fun k hk => ?_)⟩
      · simp only [applyW_cons, applyW_nil]
        exact upd_is rfl
      · simp only [applyW_cons, applyW_nil]
        exact upd_not hk
    rcases hv with ⟨rfl, rfl⟩ | ⟨h0, hj2, rfl, hj3⟩
    · by_cases hm : m = []
      · subst hm
        exact fin _ _ (hAps_nil τ n') rfl rfl hi0 (fun ρ h1 h2 => ⟨j, .inl rfl, ⟨by omega, by omega, .inr (.inl ⟨rfl, h1⟩)⟩, fun k hk2 hki _ => (h2 k hki).trans (hk k hki)⟩)
      · refine fin _ _ (hAps_fst τ n' m hm (by simpa using hlen)) rfl rfl ?_ (fun ρ h1 h2 => ⟨n', .inr (by omega), ⟨by omega, by omega, .inr (.inr ⟨hm, by omega, h1, ?_⟩)⟩, fun k hk2 hki _ => (h2 k hki).trans ?_⟩)
        · simp only [applyW_cons, applyW_nil]
          rw [upd_not (by omega)]; exact hi0
        · rw [h2 n' (by omega)]
          simp only [applyW_cons, applyW_nil]
          exact upd_is rfl
        · simp only [applyW_cons, applyW_nil]
          rw [upd_not (by omega)]; exact hk k hki
    · refine fin _ _ (hAps_snd τ n' j l m hj3 (by omega) h0 hlen) rfl rfl ?_ (fun ρ h1 h2 => ⟨n', .inr (by omega), ⟨by omega, by omega, .inr (.inr ⟨by simp [h0], by omega, h1, ?_⟩)⟩, fun k hk2 hki hkj => (h2 k hki).trans ?_⟩)
      · simp only [applyW_cons, applyW_nil]
        rw [upd_not (by omega), upd_not (Ne.symm hj2)]; exact hi0
      · rw [h2 n' (by omega)]
        simp only [applyW_cons, applyW_nil]
        exact upd_is rfl
      · simp only [applyW_cons, applyW_nil]
        rw [upd_not (by omega), upd_not hkj]; exact hk k hki
  rcases hb.here with ⟨h1, h2⟩ | ⟨h1, h2⟩ | ⟨h0, h2, h3, h4⟩
  · refine CALL_conW (caps := []) (args := [.rt i 2 PRT]) (cc_fresh PRT prt_lies i .em n) (by simpa using h2) (fun n' hn' => rest _ .em n' hn' ?_ (fun k hk => ?_) (.inl ⟨h1, rfl⟩))
    · simp only [applyW_cons, applyW_nil]; exact upd_is rfl
    · simp only [applyW_cons, applyW_nil]; exact upd_not hk
  · exact CALL_conW (caps := []) (args := [.rt i 2 PRT]) (cc_used i PRT .em n) (by simpa using h2) (fun n' hn' => rest _ .em n' hn' h2 (fun k hk => rfl) (.inl ⟨h1, rfl⟩))
  · exact CALL_conW (caps := []) (args := [.rt i 2 PRT]) (cc_used i PRT (.ob j l.length) n) (by simpa using h3) (fun n' hn' => rest _ _ n' hn' h3 (fun k hk => rfl) (.inr ⟨h0, h2, rfl, h4⟩))
theorem CALL_conH {P : Program} {g : FuncId} {caps args : List AV} {σ : Hp} {n : Nat} {R K : AEnd → Hp → Nat → Prop} (h : ConH P g (args ++ caps) σ n R) (hk : ∀ r σ' n', R r σ' n' → n ≤ n' → K r σ' n') : CALL P (.fn g caps) args σ n K := .h ⟨R, h, hk⟩
def txRows (ts : List Tx) : List (List AV) := ts.map fun t => [.s t]
set_option maxHeartbeats 1000000 in
theorem put_conH (i j q : Nat) (l : Tx) (ts : List Tx) (σ : Hp) (n : Nat) (hb : BldS σ n i j l) (hq : σ q = some (.c ⟨1, txRows ts, true, true⟩)) (hqn : q < n) (hqi : q ≠ i) (hqj : q ≠ j) (hlen : (l ++ ts.flatten).length ≤ 140737488355328) (hts : ts.length ≤ 1000) :
    ConH Tryz.prog 40 [.rt i 2 PRT, .ow q 1 0 ts.length] σ n (BPost σ n i j (l ++ ts.flatten) (.ret (.tp []))) := by
  refine by_psyntax_printer_put ?_
  generalize hR : BPost σ n i j (l ++ ts.flatten) (.ret (.tp [])) = R
  have HR := Lib.hid hR; clear hR
  rw [sh_psyntax_printer_put, aLen_ow, bindP_some]
  intro _
  refine LOOP_listM ts (fun k s τ n' => (∃ a b, s = [a, b, .sc (.int .i64 k)]) ∧ ∃ j', (j' = j ∨ n ≤ j') ∧ BldS τ n' i j' (l ++ (ts.take k).flatten) ∧ ∀ k, k < n → k ≠ i → k ≠ j → τ k = σ k) (.refl ⟨⟨_, _, rfl⟩, j, .inl rfl, by simpa using hb, fun _ _ _ _ => rfl⟩) ?_ ?_
  · rintro k t K s' τ n2 hx hk hk' hn ⟨⟨a, b, rfl⟩, j', hj', hbl, hfr⟩ hK
    have ht : (ts.take (k + 1)).flatten = (ts.take k).flatten ++ t := by rw [List.take_add_one, hx, List.flatten_append]; simp
    have hlt : (l ++ (ts.take k).flatten ++ t).length ≤ 140737488355328 := by
      have h2 : ts.flatten = (ts.take (k + 1)).flatten ++ (ts.drop (k + 1)).flatten := by rw [← List.flatten_append, List.take_append_drop]
      rw [h2, ht] at hlen
      simp only [List.length_append] at hlen ⊢
      omega
    have hq2 : τ q = some (.c ⟨1, txRows ts, true, true⟩) := (hfr q hqn hqi hqj).trans hq
    rw [lb_psyntax_printer_put2]
    simp only [List.getD_cons_succ, List.getD_cons_zero]
    rw [bindP_ltI, COND_yes hk', aIad_ow, if_pos ⟨rfl, by omega, by omega⟩, bindP_some, aLd_rf, hq2]
    have hrow : (txRows ts)[0 + (k : Int).toNat]? = some [.s t] := by unfold txRows; rw [Nat.zero_add, Int.toNat_natCast, List.getElem?_map, hx]; rfl
    simp only [if_true, hrow, part_none, List.getElem?_cons_zero, bindP_some]
    rw [aNck_rt, bindP_some, aFad_rt, if_pos rfl, bindP_some]
    refine CALL_conH (caps := []) (writeString_conH i j' _ t τ n2 hbl hlt) ?_
    rintro r τ' n3 ⟨rfl, j2, hj2, hb2, hf2⟩ hn3
    rw [kc_psyntax_printer_put1, onEnd_ret]
    simp (maxSteps:=1000000) (disch:=omega) only [List.getD_cons_succ,List.getD_cons_zero,go_sem,wrapI,wrapB,upd_is,upd_not,Nat.reduceAdd,Nat.reduceSub,Nat.reduceMul,Nat.reduceLeDiff,Nat.reduceEqDiff,Int.reduceAdd,Int.reduceSub,Int.reduceMul,Int.reduceNeg,Int.reduceLT,Int.reduceLE,Int.reduceEq,Int.reduceToNat,reduceCtorEq,reduceIte,Nat.zero_add,Nat.add_zero, *]
    refine hK _ _ _ (.refl ⟨⟨_, _, rfl⟩, j2, ?_, by rw [ht, ← List.append_assoc]; exact hb2, fun k h1 h2 h3 => (hf2 k (by omega) h2 ?_).trans (hfr k h1 h2 h3)⟩)
    · rcases hj2 with rfl | h
      · exact hj'
      · exact .inr (by omega)
    · rcases hj' with rfl | h
      · exact h3
      · omega
  · rintro K s' τ n2 hn ⟨⟨a, b, rfl⟩, j', hj', hbl, hfr⟩
    rw [List.take_length] at hbl
    rw [lb_psyntax_printer_put2]
    simp only [List.getD_cons_succ, List.getD_cons_zero]
    rw [bindP_ltI, COND_no (Int.lt_irrefl _), ← HR.out]
    exact ⟨rfl, j', hj', hbl, hfr⟩
end Go.Proofs.YtodoejfkjimeaaaGreatDoor

set_option linter.unusedSimpArgs false
set_option linter.unusedVariables false
set_option maxRecDepth 100000
namespace Go.Proofs.YtodoejfkjimeaaaGreatDoor
open Go Go.RowKit Am

theorem encE_drop (e : Ep) : (encE e).drop 7 = [] := by rw [encE_eq]; rfl
attribute [go_sem] encE_drop
end Go.Proofs.YtodoejfkjimeaaaGreatDoor
