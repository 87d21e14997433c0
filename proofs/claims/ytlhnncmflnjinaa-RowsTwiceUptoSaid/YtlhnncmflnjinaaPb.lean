/- Where a key stands: slices.BinarySearchFunc, rows.place. -/
import Derived.Test.YtlhnncmflnjinaaPa
import Derived.Test.YtlhnncmflnjinaaDd
import Derived.Test.YtlhnncmflnjinaaMw
import Derived.Test.YtlhnncmflnjinaaGbR
set_option linter.unusedSimpArgs false
set_option linter.unusedVariables false
set_option maxRecDepth 100000
namespace Go.Proofs.Ytlhnncmflnjinaa
open Go Go.RowKit Am
attribute [-go_sem] guardP_if guardK_if guardD_if COND_bool
attribute [local go_sem low] guardP_if guardK_if guardD_if COND_bool

abbrev encR (r : Rw) : List AV := [.tr (r.map encV)]
theorem encR_brw (σ : Hp) (d : Nat) (r : Rw) : brwL σ d (encR r) = some (encR r, []) := by
  simp only [brwL_cons, brwL_nil, brw_tr, List.append_nil]
/-- the halving's middle -/
theorem mid_eq {a b : Nat} (h : a + b ≤ 9223372036854775807) : IntKind.i64.wrap ((IntKind.u64.wrap ((a : Int) + b)).fdiv (2 ^ (min 1 64))) = ((a + b) / 2 : Nat) := by
  have e2 : IntKind.u64.wrap ((a : Int) + b) = ((a + b : Nat) : Int) := by rw [wrapU (by unfold rng; omega), if_pos (by omega)]; omega
  have e3 : (((a + b : Nat) : Int)).fdiv (2 ^ (min 1 64)) = ((a + b) / 2 : Nat) := by
    have : (2 : Int) ^ (min 1 64) = 2 := by decide
    rw [this, Int.fdiv_eq_ediv_of_nonneg _ (by decide)]
    omega
  rw [e2, e3, wrapI (by omega) (by omega)]
set_option maxHeartbeats 8000000 in
theorem bsF_con (g : FuncId) (caps : List AV) (c : Rw → Int) (l : List Rw) (x : Vl) (hc : ∀ σ, brwL σ 3 caps = some (caps, [])) (h : ∀ r ∈ l, Con Try.prog g ([.tr (r.map encV), .ag (encV x)] ++ caps) (.ret (.sc (.int .i64 (c r))))) :
    Con Try.prog 126 [.tr (l.map encR), .ag (encV x), .fn g caps]
      (.ret (.tp [.sc (.int .i64 (bsL (fun t => decide (c (l.getD t []) < 0)) l.length 0 l.length : Nat)), .sc (.bool (decide (bsL (fun t => decide (c (l.getD t []) < 0)) l.length 0 l.length < l.length) && decide (c (l.getD (bsL (fun t => decide (c (l.getD t []) < 0)) l.length 0 l.length) []) = 0)))])) := by
  refine con_of (by_slices_BinarySearchFunc_llapi_Value_lapi_Value_api_Value ?_)
  generalize hR : RC _ = R
  have HR := Lib.hid hR; clear hR
  obtain ⟨less, hless⟩ : ∃ less : Nat → Bool, less = fun t => decide (c (l.getD t []) < 0) := ⟨_, rfl⟩
  rw [← hless] at HR
  have HL := Lib.hid hless; clear hless
  have H := Lib.hid h; clear h
  have HC := Lib.hid hc; clear hc
  simp (maxSteps := 1000000) (disch := omega) only [sh_slices_BinarySearchFunc_llapi_Value_lapi_Value_api_Value, go_sem, wrapI, wrapB, upd_is, upd_not, Nat.reduceAdd, Nat.reduceSub, Nat.reduceMul, Nat.reduceLeDiff, Nat.reduceEqDiff, Int.reduceAdd, Int.reduceSub, Int.reduceMul, Int.reduceNeg, Int.reduceLT, Int.reduceLE, Int.reduceEq, Int.reduceToNat, reduceCtorEq, reduceIte, Nat.zero_add, Nat.add_zero, *]
  intro hbnd
  try simp only [List.length_map] at hbnd
  refine LOOP_still l.length (fun i s => ∃ (u1 u2 u3 : AV) (lo hi : Nat), s = [u1, u2, u3, .sc (.int .i64 lo), .sc (.int .i64 hi)] ∧ lo ≤ hi ∧ hi ≤ l.length ∧ hi - lo + i ≤ l.length ∧ bsL less l.length 0 l.length = bsL less (l.length - i) lo hi) ⟨_, _, _, 0, l.length, rfl, Nat.zero_le _, Nat.le_refl _, by omega, rfl⟩ ?_
  rintro i K s' n' hn hil hlen ⟨u1, u2, u3, lo, hi, rfl, h1, h2, h3, h4⟩ hK
  have HK := Lib.hid hK; clear hK
  have H4 := Lib.hid h4; clear h4
  by_cases hlt : lo < hi
  · have hlt' : (lo : Int) < hi := by omega
    have hm := mid_eq (a := lo) (b := hi) (by omega)
    have hml : (lo + hi) / 2 < l.length := by omega
    obtain ⟨m, hmm⟩ : ∃ m, m = (lo + hi) / 2 := ⟨_, rfl⟩
    rw [← hmm] at hm hml
    have hx : l[m]? = some l[m] := List.getElem?_eq_getElem hml
    generalize l[m] = r at hx
    have hg : l.getD m [] = r := by rw [List.getD_eq_getElem?_getD, hx]; rfl
    have HG := Lib.hid hg; clear hg
    have HM := Lib.hid hmm; clear hmm
    have hil' : i < l.length := by omega
    have hle : less m = decide (c r < 0) := by rw [HL.out]; simp only [HG.out]
    have HLE := Lib.hid hle; clear hle
    have hcon := H.out r (List.mem_of_getElem? hx)
    have HN := Lib.hid hcon; clear hcon
    have hstep : l.length - i = (l.length - (i + 1)) + 1 := by omega
    have HS := Lib.hid hstep; clear hstep
    simp (maxSteps := 1000000) (disch := omega) only [lb_slices_BinarySearchFunc_llapi_Value_lapi_Value_api_Value3, encR, decide_true, go_sem, wrapI, wrapB, upd_is, upd_not, Nat.reduceAdd, Nat.reduceSub, Nat.reduceMul, Nat.reduceLeDiff, Nat.reduceEqDiff, Int.reduceAdd, Int.reduceSub, Int.reduceMul, Int.reduceNeg, Int.reduceLT, Int.reduceLE, Int.reduceEq, Int.reduceToNat, reduceCtorEq, reduceIte, Nat.zero_add, Nat.add_zero, *]
    refine callD_conS (I := []) HN.out (by simp only [List.cons_append, List.nil_append, brwL_cons, brwL_nil, brw_tr, brw_ag, encV_brw, HC.out, List.append_nil, Option.map_some]) rfl ?_
    by_cases hlt0 : c r < 0
    · simp (maxSteps := 1000000) (disch := omega) only [decide_true, go_sem, wrapI, wrapB, upd_is, upd_not, Nat.reduceAdd, Nat.reduceSub, Nat.reduceMul, Nat.reduceLeDiff, Nat.reduceEqDiff, Int.reduceAdd, Int.reduceSub, Int.reduceMul, Int.reduceNeg, Int.reduceLT, Int.reduceLE, Int.reduceEq, Int.reduceToNat, reduceCtorEq, reduceIte, Nat.zero_add, Nat.add_zero, *]
      intro n3 hn3
      refine HK.out _ _ (by omega) hil' ⟨_, _, _, m + 1, hi, rfl, ?_, h2, ?_, ?_⟩
      · have := HM.out; omega
      · have := HM.out; omega
      · rw [H4.out, HS.out, bsL, if_pos hlt, ← HM.out, HLE.out, decide_eq_true hlt0, if_pos rfl]
    · simp (maxSteps := 1000000) (disch := omega) only [go_sem, wrapI, wrapB, upd_is, upd_not, Nat.reduceAdd, Nat.reduceSub, Nat.reduceMul, Nat.reduceLeDiff, Nat.reduceEqDiff, Int.reduceAdd, Int.reduceSub, Int.reduceMul, Int.reduceNeg, Int.reduceLT, Int.reduceLE, Int.reduceEq, Int.reduceToNat, reduceCtorEq, reduceIte, Nat.zero_add, Nat.add_zero, *]
      intro n3 hn3
      refine HK.out _ _ (by omega) hil' ⟨_, _, _, lo, m, rfl, ?_, ?_, ?_, ?_⟩
      · have := HM.out; omega
      · have := HM.out; omega
      · have := HM.out; omega
      · rw [H4.out, HS.out, bsL, if_pos hlt, ← HM.out, HLE.out, decide_eq_false hlt0, if_neg (by simp)]
  · have hlt' : ¬ (lo : Int) < hi := by omega
    have hend : bsL less l.length 0 l.length = lo := by
      rw [H4.out]
      cases l.length - i with
      | zero => rfl
      | succ f => rw [bsL, if_neg hlt]
    rw [hend] at HR
    clear H4 hend
    by_cases hn2 : lo < l.length
    · have hn2' : (lo : Int) < l.length := by omega
      have hx : l[lo]? = some l[lo] := List.getElem?_eq_getElem hn2
      generalize l[lo] = r at hx
      have hg : l.getD lo [] = r := by rw [List.getD_eq_getElem?_getD, hx]; rfl
      have HG := Lib.hid hg; clear hg
      have HN := Lib.hid (H.out r (List.mem_of_getElem? hx))
      simp (maxSteps := 1000000) (disch := omega) only [lb_slices_BinarySearchFunc_llapi_Value_lapi_Value_api_Value3, encR, decide_true, go_sem, wrapI, wrapB, upd_is, upd_not, Nat.reduceAdd, Nat.reduceSub, Nat.reduceMul, Nat.reduceLeDiff, Nat.reduceEqDiff, Int.reduceAdd, Int.reduceSub, Int.reduceMul, Int.reduceNeg, Int.reduceLT, Int.reduceLE, Int.reduceEq, Int.reduceToNat, reduceCtorEq, reduceIte, Nat.zero_add, Nat.add_zero, *]
      refine callD_conS (I := []) HN.out (by simp only [List.cons_append, List.nil_append, brwL_cons, brwL_nil, brw_tr, brw_ag, encV_brw, HC.out, List.append_nil, Option.map_some]) rfl ?_
      simp (maxSteps := 1000000) (disch := omega) only [decide_true, go_sem, wrapI, wrapB, upd_is, upd_not, Nat.reduceAdd, Nat.reduceSub, Nat.reduceMul, Nat.reduceLeDiff, Nat.reduceEqDiff, Int.reduceAdd, Int.reduceSub, Int.reduceMul, Int.reduceNeg, Int.reduceLT, Int.reduceLE, Int.reduceEq, Int.reduceToNat, reduceCtorEq, reduceIte, Nat.zero_add, Nat.add_zero, *]
      intro n3 hn3
      rw [← HR.out]
      exact RC_ret rfl (by rw [HG.out, decide_eq_true hn2]; rfl)
    · have hn2' : ¬ (lo : Int) < l.length := by omega
      simp (maxSteps := 1000000) (disch := omega) only [lb_slices_BinarySearchFunc_llapi_Value_lapi_Value_api_Value3, encR, go_sem, wrapI, wrapB, upd_is, upd_not, Nat.reduceAdd, Nat.reduceSub, Nat.reduceMul, Nat.reduceLeDiff, Nat.reduceEqDiff, Int.reduceAdd, Int.reduceSub, Int.reduceMul, Int.reduceNeg, Int.reduceLT, Int.reduceLE, Int.reduceEq, Int.reduceToNat, reduceCtorEq, reduceIte, Nat.zero_add, Nat.add_zero, *]
      intro n3 hn3
      rw [← HR.out]
      exact RC_ret rfl (by rw [decide_eq_false hn2]; rfl)
/-- rows that have a key -/
def HasK (k : Int) (l : List Rw) : Prop := 0 ≤ k ∧ ∀ r ∈ l, k < r.length
theorem kv_at {k : Int} {r : Rw} (h0 : 0 ≤ k) (h : k < r.length) : r[k.toNat]? = some (kv k.toNat r) := by
  have hl : k.toNat < r.length := by omega
  rw [List.getElem?_eq_getElem hl, kv, List.getD_eq_getElem?_getD, List.getElem?_eq_getElem hl]; rfl
set_option maxHeartbeats 4000000 in
theorem placec_con (t : Tb) (r : Rw) (x : Vl) (h0 : 0 ≤ t.key) (h : t.key < r.length) :
    Con Try.prog 127 ([.tr (r.map encV), .ag (encV x)] ++ [.fp (encT t)]) (.ret (.sc (.int .i64 (orderF (kv t.key.toNat r) x)))) := by
  refine con_of (by_rows_place_c1 ?_)
  generalize hR : RC _ = R
  have HR := Lib.hid hR; clear hR
  have hx := kv_at h0 h
  have HO := Lib.hid (order_con (kv t.key.toNat r) x)
  simp (maxSteps := 1000000) (disch := omega) only [sh_rows_place_c1, encT, go_sem, wrapI, wrapB, upd_is, upd_not, Nat.reduceAdd, Nat.reduceSub, Nat.reduceMul, Nat.reduceLeDiff, Nat.reduceEqDiff, Int.reduceAdd, Int.reduceSub, Int.reduceMul, Int.reduceNeg, Int.reduceLT, Int.reduceLE, Int.reduceEq, Int.reduceToNat, reduceCtorEq, reduceIte, Nat.zero_add, Nat.add_zero, *]
  refine callD_conS (I := []) HO.out (by simp only [List.cons_append, List.nil_append, brwL_cons, brwL_nil, brw_ag, encV_brw, List.append_nil, Option.map_some]) rfl ?_
  simp (maxSteps := 1000000) (disch := omega) only [go_sem, wrapI, wrapB, upd_is, upd_not, Nat.reduceAdd, Nat.reduceSub, Nat.reduceMul, Nat.reduceLeDiff, Nat.reduceEqDiff, Int.reduceAdd, Int.reduceSub, Int.reduceMul, Int.reduceNeg, Int.reduceLT, Int.reduceLE, Int.reduceEq, Int.reduceToNat, reduceCtorEq, reduceIte, Nat.zero_add, Nat.add_zero, *]
  intro n3 hn3
  rw [← HR.out]
  exact RC_ret rfl rfl
theorem rplace_con (t : Tb) (l : List Rw) (x : Vl) (h : HasK t.key l) :
    Con Try.prog 78 [.ag (encT t), .tr (l.map encR), .ag (encV x)] (.ret (.tp [.sc (.int .i64 (at_ t.key.toNat l x : Nat)), .sc (.bool (is_ t.key.toNat l x))])) := by
  refine con_of (by_rows_place ?_)
  generalize hR : RC _ = R
  have HR := Lib.hid hR; clear hR
  have HB := Lib.hid (bsF_con 127 [.fp (encT t)] (fun r => orderF (kv t.key.toNat r) x) l x (fun σ => by simp only [brwL_cons, brwL_nil, brw_fp, List.append_nil]) (fun r hr => placec_con t r x h.1 (h.2 r hr)))
  clear h
  simp (maxSteps := 1000000) (disch := omega) only [sh_rows_place, go_sem, wrapI, wrapB, upd_is, upd_not, Nat.reduceAdd, Nat.reduceSub, Nat.reduceMul, Nat.reduceLeDiff, Nat.reduceEqDiff, Int.reduceAdd, Int.reduceSub, Int.reduceMul, Int.reduceNeg, Int.reduceLT, Int.reduceLE, Int.reduceEq, Int.reduceToNat, reduceCtorEq, reduceIte, Nat.zero_add, Nat.add_zero, *]
  refine CALL_conS HB.out (I := [0]) ?_ rfl ?_
  · simp (maxSteps := 1000000) (disch := omega) only [encT, encV, go_sem, wrapI, wrapB, upd_is, upd_not, Nat.reduceAdd, Nat.reduceSub, Nat.reduceMul, Nat.reduceLeDiff, Nat.reduceEqDiff, Int.reduceAdd, Int.reduceSub, Int.reduceMul, Int.reduceNeg, Int.reduceLT, Int.reduceLE, Int.reduceEq, Int.reduceToNat, reduceCtorEq, reduceIte, Nat.zero_add, Nat.add_zero, *]
  · simp (maxSteps := 1000000) (disch := omega) only [go_sem, wrapI, wrapB, upd_is, upd_not, Nat.reduceAdd, Nat.reduceSub, Nat.reduceMul, Nat.reduceLeDiff, Nat.reduceEqDiff, Int.reduceAdd, Int.reduceSub, Int.reduceMul, Int.reduceNeg, Int.reduceLT, Int.reduceLE, Int.reduceEq, Int.reduceToNat, reduceCtorEq, reduceIte, Nat.zero_add, Nat.add_zero, *]
    rw [← HR.out]
    exact RC_ret rfl rfl
theorem adj_iff {k : Nat} : ∀ {l : List Rw}, adjF k l = true ↔ ∀ (j : Nat) (a b : Rw), l[j]? = some a → l[j + 1]? = some b → orderF (kv k a) (kv k b) < 0
  | [] => by simp [adjF]
  | [a] => by simp [adjF]
  | a :: b :: l => by
    rw [adjF, Bool.and_eq_true, decide_eq_true_eq, adj_iff (l := b :: l)]
    constructor
    · rintro ⟨h1, h2⟩ j x y hx hy
      cases j with
      | zero => simp at hx hy; subst hx hy; exact h1
      | succ j => exact h2 j x y (by simpa using hx) (by simpa using hy)
    · exact fun h => ⟨h 0 a b rfl rfl, fun j x y hx hy => h (j + 1) x y (by simpa using hx) (by simpa using hy)⟩
theorem fitsAll_stop {cs : List Cl} : ∀ {l : List Rw} {i : Nat} {r : Rw}, l[i]? = some r → fitsAll cs (l.take i) = 0 → fitsF cs r ≠ 0 → fitsAll cs l = fitsF cs r
  | [], i, r, h, _, _ => by simp at h
  | a :: l, 0, r, h, _, h2 => by cases h; simp [fitsAll, h2]
  | a :: l, i + 1, r, h, h1, h2 => by
    simp only [List.take_succ_cons, fitsAll] at h1 ⊢
    by_cases e : fitsF cs a = 0
    · rw [if_neg (by simp [e])] at h1 ⊢
      exact fitsAll_stop (by simpa using h) h1 h2
    · rw [if_pos e] at h1; exact absurd h1 e
theorem fitsAll_next {cs : List Cl} {l : List Rw} {i : Nat} {r : Rw} (h : l[i]? = some r) (h1 : fitsAll cs (l.take i) = 0) (h2 : fitsF cs r = 0) : fitsAll cs (l.take (i + 1)) = 0 := by
  rw [fitsAll_zero] at h1 ⊢
  intro x hx
  rw [List.take_add_one, h] at hx
  rcases List.mem_append.1 hx with hx | hx
  · exact h1 x hx
  · simp at hx; subst hx; exact h2
theorem fits_len {cs : List Cl} {r : Rw} (h : fitsF cs r = 0) : r.length = cs.length := by
  unfold fitsF at h
  by_cases e : r.length = cs.length
  · exact e
  · rw [if_pos e] at h; cases h
theorem may_key {t : Tb} (h : mayF t = true) : 0 ≤ t.key ∧ t.key < t.columns.length := by
  unfold mayF at h
  by_cases e : 0 ≤ t.key ∧ t.key < t.columns.length
  · exact e
  · rw [if_pos (.inr (.inr (.inr (.inr (.inl e)))))] at h; cases h
set_option maxHeartbeats 16000000 in
theorem rcheck_con (t : Tb) (l : List Rw) (ht : TRg t) : Con Try.prog 30 [.ag (encT t), .tr (l.map encR)] (.ret (.sc (.int .i64 (rowsF t l)))) := by
  refine con_of (by_rows_Check ?_)
  generalize hR : RC _ = R
  have HR := Lib.hid hR; clear hR
  have HM := Lib.hid (may_con t ht); clear ht
  have HF := Lib.hid (show rowsF t l = if 256 < l.length then 3 else if mayF t = false then 9 else if fitsAll t.columns l ≠ 0 then fitsAll t.columns l else if adjF t.key.toNat l = false then 9 else 0 from rfl)
  by_cases h1 : 256 < l.length
  · have h1' : (256 : Int) < l.length := by omega
    simp (maxSteps := 1000000) (disch := omega) only [sh_rows_Check, go_sem, wrapI, wrapB, upd_is, upd_not, Nat.reduceAdd, Nat.reduceSub, Nat.reduceMul, Nat.reduceLeDiff, Nat.reduceEqDiff, Int.reduceAdd, Int.reduceSub, Int.reduceMul, Int.reduceNeg, Int.reduceLT, Int.reduceLE, Int.reduceEq, Int.reduceToNat, reduceCtorEq, reduceIte, Nat.zero_add, Nat.add_zero, *]
    intro hb
    rw [← HR.out, HF.out, if_pos h1]; exact RC_ret rfl rfl
  · have h1' : ¬ (256 : Int) < l.length := by omega
    have H1 := Lib.hid h1; clear h1
    simp (maxSteps := 1000000) (disch := omega) only [sh_rows_Check, encT, go_sem, wrapI, wrapB, upd_is, upd_not, Nat.reduceAdd, Nat.reduceSub, Nat.reduceMul, Nat.reduceLeDiff, Nat.reduceEqDiff, Int.reduceAdd, Int.reduceSub, Int.reduceMul, Int.reduceNeg, Int.reduceLT, Int.reduceLE, Int.reduceEq, Int.reduceToNat, reduceCtorEq, reduceIte, Nat.zero_add, Nat.add_zero, *]
    intro hb
    cases h2 : mayF t with
    | false =>
      rw [h2] at HM
      refine CALL_con0 HM.out rfl ?_
      simp (maxSteps := 1000000) (disch := omega) only [go_sem, wrapI, wrapB, upd_is, upd_not, Nat.reduceAdd, Nat.reduceSub, Nat.reduceMul, Nat.reduceLeDiff, Nat.reduceEqDiff, Int.reduceAdd, Int.reduceSub, Int.reduceMul, Int.reduceNeg, Int.reduceLT, Int.reduceLE, Int.reduceEq, Int.reduceToNat, reduceCtorEq, reduceIte, Nat.zero_add, Nat.add_zero, *]
      rw [← HR.out, HF.out, if_neg H1.out, if_pos h2]; exact RC_ret rfl rfl
    | true =>
      rw [h2] at HM
      refine CALL_con0 HM.out rfl ?_
      obtain ⟨k0, k1⟩ := may_key h2
      have hf : rowsF t l = if fitsAll t.columns l ≠ 0 then fitsAll t.columns l else if adjF t.key.toNat l = false then 9 else 0 := by
        rw [HF.out, if_neg H1.out, if_neg (by simp [h2])]
      clear HF HM h2
      have HF := Lib.hid hf; clear hf
      have HK1 := Lib.hid k1; clear k1
      simp (maxSteps := 1000000) (disch := omega) only [go_sem, wrapI, wrapB, upd_is, upd_not, Nat.reduceAdd, Nat.reduceSub, Nat.reduceMul, Nat.reduceLeDiff, Nat.reduceEqDiff, Int.reduceAdd, Int.reduceSub, Int.reduceMul, Int.reduceNeg, Int.reduceLT, Int.reduceLE, Int.reduceEq, Int.reduceToNat, reduceCtorEq, reduceIte, Nat.zero_add, Nat.add_zero, *]
      try intros
      refine LOOP_listM l (fun i s σ' n' => (∃ a b c d, s = [a, b, c, d, .sc (.int .i64 0), .sc (.int .i64 i)]) ∧ fitsAll t.columns (l.take i) = 0 ∧ σ' 0 = some (.c ⟨4, [[.s t.name, .tr (t.columns.map encC), .sc (.int .i64 t.key), .tr (t.indexes.map encX)]], true, false⟩)) (.refl ⟨⟨_, _, _, _, rfl⟩, rfl, rfl⟩) ?_ ?_
      · rintro i r K s' σ' n2 hx hi hi' hn ⟨⟨a, b, c, d, rfl⟩, h0, hb0⟩ hK
        have HK := Lib.hid hK; clear hK
        have HFC := Lib.hid (fits_con t r)
        have HS := Lib.hid (fun h => fitsAll_stop hx h0 h)
        have HT := Lib.hid (fun h => fitsAll_next hx h0 h)
        clear h0
        simp (maxSteps := 1000000) (disch := omega) only [lb_rows_Check4, encR, go_sem, wrapI, wrapB, upd_is, upd_not, Nat.reduceAdd, Nat.reduceSub, Nat.reduceMul, Nat.reduceLeDiff, Nat.reduceEqDiff, Int.reduceAdd, Int.reduceSub, Int.reduceMul, Int.reduceNeg, Int.reduceLT, Int.reduceLE, Int.reduceEq, Int.reduceToNat, reduceCtorEq, reduceIte, Nat.zero_add, Nat.add_zero, *]
        refine CALL_con0 HFC.out (by simp (maxSteps := 1000000) (disch := omega) only [encT, go_sem, wrapI, wrapB, upd_is, upd_not, Nat.reduceAdd, Nat.reduceSub, Nat.reduceMul, Nat.reduceLeDiff, Nat.reduceEqDiff, Int.reduceAdd, Int.reduceSub, Int.reduceMul, Int.reduceNeg, Int.reduceLT, Int.reduceLE, Int.reduceEq, Int.reduceToNat, reduceCtorEq, reduceIte, Nat.zero_add, Nat.add_zero, *]) ?_
        by_cases h3 : fitsF t.columns r = 0
        · simp (maxSteps := 1000000) (disch := omega) only [go_sem, wrapI, wrapB, upd_is, upd_not, Nat.reduceAdd, Nat.reduceSub, Nat.reduceMul, Nat.reduceLeDiff, Nat.reduceEqDiff, Int.reduceAdd, Int.reduceSub, Int.reduceMul, Int.reduceNeg, Int.reduceLT, Int.reduceLE, Int.reduceEq, Int.reduceToNat, reduceCtorEq, reduceIte, Nat.zero_add, Nat.add_zero, *]
          exact HK.out _ _ _ (.refl ⟨⟨_, _, _, _, rfl⟩, HT.out h3, hb0⟩)
        · simp (maxSteps := 1000000) (disch := omega) only [go_sem, wrapI, wrapB, upd_is, upd_not, Nat.reduceAdd, Nat.reduceSub, Nat.reduceMul, Nat.reduceLeDiff, Nat.reduceEqDiff, Int.reduceAdd, Int.reduceSub, Int.reduceMul, Int.reduceNeg, Int.reduceLT, Int.reduceLE, Int.reduceEq, Int.reduceToNat, reduceCtorEq, reduceIte, Nat.zero_add, Nat.add_zero, *]
          rw [← HR.out, HF.out, HS.out h3, if_pos h3]; exact RC_ret rfl rfl
      · rintro K s' σ' n2 hn ⟨⟨a, b, c, d, rfl⟩, h0, hb0⟩
        rw [List.take_length] at h0
        rw [if_neg (by simp [h0])] at HF
        have hlen : ∀ r ∈ l, r.length = t.columns.length := fun r hr => fits_len (fitsAll_zero.1 h0 r hr)
        have HL := Lib.hid hlen; clear hlen h0
        simp (maxSteps := 1000000) (disch := omega) only [lb_rows_Check4, Int.lt_irrefl, go_sem, wrapI, wrapB, upd_is, upd_not, Nat.reduceAdd, Nat.reduceSub, Nat.reduceMul, Nat.reduceLeDiff, Nat.reduceEqDiff, Int.reduceAdd, Int.reduceSub, Int.reduceMul, Int.reduceNeg, Int.reduceLT, Int.reduceLE, Int.reduceEq, Int.reduceToNat, reduceCtorEq, reduceIte, Nat.zero_add, Nat.add_zero, *]
        try intros
        refine LOOP_listM l (fun i s σ' n' => (∃ a b c, s = [a, b, c, .sc (.int .i64 0), .sc (.int .i64 i)]) ∧ (∀ (j : Nat) (x y : Rw), j + 1 < i → l[j]? = some x → l[j + 1]? = some y → orderF (kv t.key.toNat x) (kv t.key.toNat y) < 0) ∧ σ' 0 = some (.c ⟨4, [[.s t.name, .tr (t.columns.map encC), .sc (.int .i64 t.key), .tr (t.indexes.map encX)]], true, false⟩)) (.refl ⟨⟨_, _, _, rfl⟩, (fun j x y h => by omega), hb0⟩) ?_ ?_
        · rintro i y K s' σ2 n3 hx hi hi' hn3 ⟨⟨a, b, c, rfl⟩, h0, hb0'⟩ hK
          clear hb0
          have HK := Lib.hid hK; clear hK
          have H0 := Lib.hid h0; clear h0
          rcases Nat.eq_zero_or_pos i with hi0 | hi0
          · subst hi0
            have e2 : ¬ (0 : Int) < ((0 : Nat) : Int) := by omega
            have HC := Lib.hid (show ((0 : Nat) : Int) + 1 = ((0 + 1 : Nat) : Int) from rfl)
            simp (maxSteps := 1000000) (disch := omega) only [lb_rows_Check3, go_sem, wrapI, wrapB, upd_is, upd_not, Nat.reduceAdd, Nat.reduceSub, Nat.reduceMul, Nat.reduceLeDiff, Nat.reduceEqDiff, Int.reduceAdd, Int.reduceSub, Int.reduceMul, Int.reduceNeg, Int.reduceLT, Int.reduceLE, Int.reduceEq, Int.reduceToNat, reduceCtorEq, reduceIte, Nat.zero_add, Nat.add_zero, *]
            intro n4 hn4
            refine HK.out _ _ _ (.refl ⟨⟨_, _, _, rfl⟩, fun j x y h => by omega, hb0'⟩)
          · obtain ⟨m, rfl⟩ : ∃ m, i = m + 1 := ⟨i - 1, by omega⟩
            have hm : m < l.length := by omega
            have hxm : l[m]? = some l[m] := List.getElem?_eq_getElem hm
            generalize l[m] = x at hxm
            have e1 : ((m + 1 : Nat) : Int) - 1 = m := by omega
            have e2 : (0 : Int) < ((m + 1 : Nat) : Int) := by omega
            have hkx := kv_at k0 (by have := HK1.out; have := HL.out x (List.mem_of_getElem? hxm); omega : t.key < x.length)
            have hky := kv_at k0 (by have := HK1.out; have := HL.out y (List.mem_of_getElem? hx); omega : t.key < y.length)
            have HO := Lib.hid (order_con (kv t.key.toNat x) (kv t.key.toNat y))
            simp (maxSteps := 1000000) (disch := omega) only [lb_rows_Check3, encR, go_sem, wrapI, wrapB, upd_is, upd_not, Nat.reduceAdd, Nat.reduceSub, Nat.reduceMul, Nat.reduceLeDiff, Nat.reduceEqDiff, Int.reduceAdd, Int.reduceSub, Int.reduceMul, Int.reduceNeg, Int.reduceLT, Int.reduceLE, Int.reduceEq, Int.reduceToNat, reduceCtorEq, reduceIte, Nat.zero_add, Nat.add_zero, *]
            refine callD_conS (I := []) HO.out (by simp only [List.cons_append, List.nil_append, brwL_cons, brwL_nil, brw_ag, encV_brw, List.append_nil, Option.map_some]) rfl ?_
            by_cases h4 : orderF (kv t.key.toNat x) (kv t.key.toNat y) < 0
            · have h4' : ¬ 0 ≤ orderF (kv t.key.toNat x) (kv t.key.toNat y) := by omega
              simp (maxSteps := 1000000) (disch := omega) only [go_sem, wrapI, wrapB, upd_is, upd_not, Nat.reduceAdd, Nat.reduceSub, Nat.reduceMul, Nat.reduceLeDiff, Nat.reduceEqDiff, Int.reduceAdd, Int.reduceSub, Int.reduceMul, Int.reduceNeg, Int.reduceLT, Int.reduceLE, Int.reduceEq, Int.reduceToNat, reduceCtorEq, reduceIte, Nat.zero_add, Nat.add_zero, *]
              intro n4 hn4
              refine HK.out _ _ _ (.refl ⟨⟨_, _, _, rfl⟩, fun j u v hj hu hv => ?_, hb0'⟩)
              rcases Nat.lt_or_ge (j + 1) (m + 1) with hj2 | hj2
              · exact H0.out j u v hj2 hu hv
              · have : j = m := by omega
                subst this
                rw [hxm] at hu; rw [hx] at hv
                cases hu; cases hv; exact h4
            · have h4' : 0 ≤ orderF (kv t.key.toNat x) (kv t.key.toNat y) := by omega
              simp (maxSteps := 1000000) (disch := omega) only [go_sem, wrapI, wrapB, upd_is, upd_not, Nat.reduceAdd, Nat.reduceSub, Nat.reduceMul, Nat.reduceLeDiff, Nat.reduceEqDiff, Int.reduceAdd, Int.reduceSub, Int.reduceMul, Int.reduceNeg, Int.reduceLT, Int.reduceLE, Int.reduceEq, Int.reduceToNat, reduceCtorEq, reduceIte, Nat.zero_add, Nat.add_zero, *]
              intro n4 hn4
              have hadj : adjF t.key.toNat l = false := by
                cases h5 : adjF t.key.toNat l with
                | false => rfl
                | true => exact absurd (adj_iff.1 h5 m x y hxm hx) h4
              rw [← HR.out, HF.out, if_pos hadj]; exact RC_ret rfl rfl
        · rintro K s' σ2 n3 hn3 ⟨⟨a, b, c, rfl⟩, h0, hb0'⟩
          clear hb0
          have hadj : adjF t.key.toNat l = true := adj_iff.2 fun j x y hx hy => h0 j x y (by have := (List.getElem?_eq_some_iff.1 hy).1; omega) hx hy
          clear h0
          rw [if_neg (by simp [hadj])] at HF
          clear hadj
          simp (maxSteps := 1000000) (disch := omega) only [lb_rows_Check3, Int.lt_irrefl, go_sem, wrapI, wrapB, upd_is, upd_not, Nat.reduceAdd, Nat.reduceSub, Nat.reduceMul, Nat.reduceLeDiff, Nat.reduceEqDiff, Int.reduceAdd, Int.reduceSub, Int.reduceMul, Int.reduceNeg, Int.reduceLT, Int.reduceLE, Int.reduceEq, Int.reduceToNat, reduceCtorEq, reduceIte, Nat.zero_add, Nat.add_zero, *]
          rw [← HR.out, HF.out]; exact RC_ret rfl rfl
end Go.Proofs.Ytlhnncmflnjinaa
set_option maxRecDepth 100000
namespace Go.Proofs.Ytlhnncmflnjinaa
open Go Go.RowKit Am
attribute [-go_sem] guardP_if guardK_if guardD_if COND_bool
attribute [local go_sem low] guardP_if guardK_if guardD_if COND_bool

theorem rfind_con (t : Tb) (l : List Rw) (x : Vl) (ht : TRg t) : Con Try.prog 31 [.ag (encT t), .tr (l.map encR), .ag (encV x)]
    (.ret (.tp (if rowsF t l ≠ 0 then [.sc (.int .i64 0), .sc (.bool false), .sc (.int .i64 (rowsF t l))] else [.sc (.int .i64 (at_ t.key.toNat l x : Nat)), .sc (.bool (is_ t.key.toNat l x)), .sc (.int .i64 0)]))) := by
  refine con_of (by_rows_Find ?_)
  generalize hR : RC _ = R
  have HR := Lib.hid hR; clear hR
  have HC := Lib.hid (rcheck_con t l ht)
  by_cases h : rowsF t l = 0
  · have hO := rowsF_zero.1 h
    obtain ⟨k0, k1⟩ := may_key hO.may
    have HP := Lib.hid (rplace_con t l x ⟨k0, fun r hr => by have := fits_len (hO.fit r hr); omega⟩)
    clear hO k0 k1 ht
    simp (maxSteps := 1000000) (disch := omega) only [sh_rows_Find, go_sem, wrapI, wrapB, upd_is, upd_not, Nat.reduceAdd, Nat.reduceSub, Nat.reduceMul, Nat.reduceLeDiff, Nat.reduceEqDiff, Int.reduceAdd, Int.reduceSub, Int.reduceMul, Int.reduceNeg, Int.reduceLT, Int.reduceLE, Int.reduceEq, Int.reduceToNat, reduceCtorEq, reduceIte, Nat.zero_add, Nat.add_zero, *]
    refine CALL_con0 HC.out (by simp (maxSteps := 1000000) (disch := omega) only [encT, go_sem, wrapI, wrapB, upd_is, upd_not, Nat.reduceAdd, Nat.reduceSub, Nat.reduceMul, Nat.reduceLeDiff, Nat.reduceEqDiff, Int.reduceAdd, Int.reduceSub, Int.reduceMul, Int.reduceNeg, Int.reduceLT, Int.reduceLE, Int.reduceEq, Int.reduceToNat, reduceCtorEq, reduceIte, Nat.zero_add, Nat.add_zero, *]) ?_
    simp (maxSteps := 1000000) (disch := omega) only [go_sem, wrapI, wrapB, upd_is, upd_not, Nat.reduceAdd, Nat.reduceSub, Nat.reduceMul, Nat.reduceLeDiff, Nat.reduceEqDiff, Int.reduceAdd, Int.reduceSub, Int.reduceMul, Int.reduceNeg, Int.reduceLT, Int.reduceLE, Int.reduceEq, Int.reduceToNat, reduceCtorEq, reduceIte, Nat.zero_add, Nat.add_zero, *]
    refine CALL_con0 HP.out (by simp (maxSteps := 1000000) (disch := omega) only [encT, encV, go_sem, wrapI, wrapB, upd_is, upd_not, Nat.reduceAdd, Nat.reduceSub, Nat.reduceMul, Nat.reduceLeDiff, Nat.reduceEqDiff, Int.reduceAdd, Int.reduceSub, Int.reduceMul, Int.reduceNeg, Int.reduceLT, Int.reduceLE, Int.reduceEq, Int.reduceToNat, reduceCtorEq, reduceIte, Nat.zero_add, Nat.add_zero, *]) ?_
    simp (maxSteps := 1000000) (disch := omega) only [go_sem, wrapI, wrapB, upd_is, upd_not, Nat.reduceAdd, Nat.reduceSub, Nat.reduceMul, Nat.reduceLeDiff, Nat.reduceEqDiff, Int.reduceAdd, Int.reduceSub, Int.reduceMul, Int.reduceNeg, Int.reduceLT, Int.reduceLE, Int.reduceEq, Int.reduceToNat, reduceCtorEq, reduceIte, Nat.zero_add, Nat.add_zero, *]
    rw [← HR.out]
    exact RC_ret rfl (by rw [if_neg (by simp [h])])
  · clear ht
    simp (maxSteps := 1000000) (disch := omega) only [sh_rows_Find, go_sem, wrapI, wrapB, upd_is, upd_not, Nat.reduceAdd, Nat.reduceSub, Nat.reduceMul, Nat.reduceLeDiff, Nat.reduceEqDiff, Int.reduceAdd, Int.reduceSub, Int.reduceMul, Int.reduceNeg, Int.reduceLT, Int.reduceLE, Int.reduceEq, Int.reduceToNat, reduceCtorEq, reduceIte, Nat.zero_add, Nat.add_zero, *]
    refine CALL_con0 HC.out (by simp (maxSteps := 1000000) (disch := omega) only [encT, go_sem, wrapI, wrapB, upd_is, upd_not, Nat.reduceAdd, Nat.reduceSub, Nat.reduceMul, Nat.reduceLeDiff, Nat.reduceEqDiff, Int.reduceAdd, Int.reduceSub, Int.reduceMul, Int.reduceNeg, Int.reduceLT, Int.reduceLE, Int.reduceEq, Int.reduceToNat, reduceCtorEq, reduceIte, Nat.zero_add, Nat.add_zero, *]) ?_
    simp (maxSteps := 1000000) (disch := omega) only [go_sem, wrapI, wrapB, upd_is, upd_not, Nat.reduceAdd, Nat.reduceSub, Nat.reduceMul, Nat.reduceLeDiff, Nat.reduceEqDiff, Int.reduceAdd, Int.reduceSub, Int.reduceMul, Int.reduceNeg, Int.reduceLT, Int.reduceLE, Int.reduceEq, Int.reduceToNat, reduceCtorEq, reduceIte, Nat.zero_add, Nat.add_zero, *]
    rw [← HR.out]
    exact RC_ret rfl (by rw [if_pos h])
theorem all3 (r : Rw) : ((r.map encV).all fun x => x.length == 3) = true := by rw [List.all_eq_true]; intro x hx; obtain ⟨v, _, rfl⟩ := List.mem_map.1 hx; rfl
theorem allL (r : Rw) : ((r.map encV).all fun x => x.all leafok) = true := by rw [List.all_eq_true]; intro x hx; obtain ⟨v, _, rfl⟩ := List.mem_map.1 hx; rfl
theorem allR1 (l : List Rw) : ((l.map encR).all fun x => x.length == 1) = true := by rw [List.all_eq_true]; intro x hx; obtain ⟨v, _, rfl⟩ := List.mem_map.1 hx; rfl
theorem allRL (l : List Rw) : ((l.map encR).all fun x => x.all leafok) = true := by rw [List.all_eq_true]; intro x hx; obtain ⟨v, _, rfl⟩ := List.mem_map.1 hx; rfl
attribute [go_sem] all3 allL allR1 allRL
theorem len3 (v : Vl) : ((encV v).length == 3) = true := rfl
theorem len1 (r : Rw) : ((encR r).length == 1) = true := rfl
attribute [go_sem] len3 len1
theorem encR_leaf (r : Rw) : (encR r).all leafok = true := rfl
attribute [go_sem] encR_leaf
theorem rclone_con (r : Rw) (hl : r.length ≤ 1048576) : Con Try.prog 122 [.tr (r.map encV)] (.ret (.tr (r.map encV))) := by
  refine con_of (by_slices_Clone_lapi_Value_api_Value ?_)
  generalize hR : RC _ = R
  have HR := Lib.hid hR; clear hR
  cases r with
  | nil =>
    simp (maxSteps := 1000000) (disch := omega) only [sh_slices_Clone_lapi_Value_api_Value, go_sem, wrapI, wrapB, upd_is, upd_not, Nat.reduceAdd, Nat.reduceSub, Nat.reduceMul, Nat.reduceLeDiff, Nat.reduceEqDiff, Int.reduceAdd, Int.reduceSub, Int.reduceMul, Int.reduceNeg, Int.reduceLT, Int.reduceLE, Int.reduceEq, Int.reduceToNat, reduceCtorEq, reduceIte, Nat.zero_add, Nat.add_zero, *]
    constructor
    · rw [← HR.out]; exact RC_ret rfl rfl
    · rw [← HR.out]
      exact RC_ret (by simp only [brw_ow', upd_is, upd_same]; rfl) rfl
  | cons v r =>
    have hl2 : (r.length + 1) * 32 ≤ 140737488355328 := by simp at hl; omega
    simp (maxSteps := 1000000) (disch := omega) only [sh_slices_Clone_lapi_Value_api_Value, go_sem, wrapI, wrapB, upd_is, upd_not, Nat.reduceAdd, Nat.reduceSub, Nat.reduceMul, Nat.reduceLeDiff, Nat.reduceEqDiff, Int.reduceAdd, Int.reduceSub, Int.reduceMul, Int.reduceNeg, Int.reduceLT, Int.reduceLE, Int.reduceEq, Int.reduceToNat, reduceCtorEq, reduceIte, Nat.zero_add, Nat.add_zero, *]
    rw [← HR.out]
    refine RC_ret (by simp only [brw_ow', upd_is, upd_same]; rw [if_pos (by simp)]) ?_
    simp [List.take_of_length_le]
theorem lclone_con (l : List Rw) (hl : l.length ≤ 1048576) (id : Nat) : ConW Try.prog 157 [.tr (l.map encR)] [] id (.ret (.ow id 1 0 l.length)) [(id, some (.c ⟨1, l.map encR, true, true⟩))] := by
  refine conW_ofE (k := 1) (cl := true) (by kernel_rfl) (fun σ n _ hid hn hf => by_slices_Clone_llapi_Value_lapi_Value ?_)
  generalize hR : (fun (r' : AEnd) (σ' : Hp) (_ : Nat) => _) = R
  have HR := Lib.hid hR; clear hR
  have hfr : ∀ j, n ≤ j → ∀ q, q < 16 → j ≠ id + q := fun j hj q hq => by omega
  have HFR := Lib.hid hfr; clear hfr
  have HF := Lib.hid hf; clear hf
  have hnn : ¬ n = n + 16 := by omega
  cases l with
  | nil =>
    simp (maxSteps := 1000000) (disch := omega) only [sh_slices_Clone_llapi_Value_lapi_Value, go_sem, wrapI, wrapB, upd_is, upd_not, Nat.reduceAdd, Nat.reduceSub, Nat.reduceMul, Nat.reduceLeDiff, Nat.reduceEqDiff, Int.reduceAdd, Int.reduceSub, Int.reduceMul, Int.reduceNeg, Int.reduceLT, Int.reduceLE, Int.reduceEq, Int.reduceToNat, reduceCtorEq, reduceIte, Nat.zero_add, Nat.add_zero, *]
    constructor
    · rw [← HR.out]
      exact .inr ⟨rfl, rfl, rfl, fun i x h => h⟩
    · rw [← HR.out]
      refine .inl (wn_new ?_ (HFR.out _ (by omega)) (HF.out _ (by omega)) (fun i y hy => ?_))
      · simp only [upd_is]
        rfl
      · have h1 : i ≠ n := fun e => by rw [e, HF.out n (by omega)] at hy; cases hy
        have h2 : i ≠ n + 16 := fun e => by rw [e, HF.out (n + 16) (by omega)] at hy; cases hy
        simp only [upd_not h1, upd_not h2]; exact hy
  | cons v r =>
    have hl2 : (r.length + 1) * 24 ≤ 140737488355328 := by simp at hl; omega
    simp (maxSteps := 1000000) (disch := omega) only [sh_slices_Clone_llapi_Value_lapi_Value, go_sem, wrapI, wrapB, upd_is, upd_not, Nat.reduceAdd, Nat.reduceSub, Nat.reduceMul, Nat.reduceLeDiff, Nat.reduceEqDiff, Int.reduceAdd, Int.reduceSub, Int.reduceMul, Int.reduceNeg, Int.reduceLT, Int.reduceLE, Int.reduceEq, Int.reduceToNat, reduceCtorEq, reduceIte, Nat.zero_add, Nat.add_zero, *]
    rw [← HR.out]
    refine .inl (wn_new ?_ (HFR.out _ (by omega)) (HF.out _ (by omega)) (fun i y hy => ?_))
    · simp only [upd_is]
      rfl
    · have h1 : i ≠ n := fun e => by rw [e, HF.out n (by omega)] at hy; cases hy
      have h2 : i ≠ n + 16 := fun e => by rw [e, HF.out (n + 16) (by omega)] at hy; cases hy
      simp only [upd_not h1, upd_not h2]; exact hy
theorem set_same {α β : Type} {f : α → β} {l : List α} {i : Nat} {r : α} (h : l[i]? = some r) : (l.map f).set i (f r) = l.map f := by
  have hi := (List.getElem?_eq_some_iff.1 h).1
  apply List.ext_getElem?
  intro j
  rw [List.getElem?_set]
  split
  · rename_i e
    subst e
    have e2 : l[i] = r := by rw [List.getElem?_eq_getElem hi] at h; exact Option.some.inj h
    simp [hi, e2]
  · rfl
theorem rowsClone_con (l : List Rw) (hl : l.length ≤ 1048576) (hr : ∀ r ∈ l, r.length ≤ 1048576) (id : Nat) : ConW Try.prog 120 [.tr (l.map encR)] [] id (.ret (.ow id 1 0 l.length)) [(id, some (.c ⟨1, l.map encR, true, true⟩))] := by
  refine conW_ofE (k := 1) (cl := true) (by kernel_rfl) (fun σ n _ hid hn hf => by_rows_Clone ?_)
  generalize hR : (fun (r' : AEnd) (σ' : Hp) (_ : Nat) => _) = R
  have HR := Lib.hid hR; clear hR
  have HFR := Lib.hid (show ∀ j, n ≤ j → ∀ q, q < 16 → j ≠ id + q from fun j hj q hq => by omega)
  have HF := Lib.hid hf; clear hf
  have HC := Lib.hid hr; clear hr
  simp (maxSteps := 1000000) (disch := omega) only [sh_rows_Clone, go_sem, wrapI, wrapB, upd_is, upd_not, Nat.reduceAdd, Nat.reduceSub, Nat.reduceMul, Nat.reduceLeDiff, Nat.reduceEqDiff, Int.reduceAdd, Int.reduceSub, Int.reduceMul, Int.reduceNeg, Int.reduceLT, Int.reduceLE, Int.reduceEq, Int.reduceToNat, reduceCtorEq, reduceIte, Nat.zero_add, Nat.add_zero, *]
  refine CALL_conW (lclone_con l hl n) (by simp) ?_
  intro n1 hn1
  simp (maxSteps := 1000000) (disch := omega) only [go_sem, wrapI, wrapB, upd_is, upd_not, Nat.reduceAdd, Nat.reduceSub, Nat.reduceMul, Nat.reduceLeDiff, Nat.reduceEqDiff, Int.reduceAdd, Int.reduceSub, Int.reduceMul, Int.reduceNeg, Int.reduceLT, Int.reduceLE, Int.reduceEq, Int.reduceToNat, reduceCtorEq, reduceIte, Nat.zero_add, Nat.add_zero, *]
  try intros
  refine LOOP_listM l (fun i s σ' n' => (∃ a b c, s = [a, b, c, .sc (.int .i64 i)]) ∧ σ' n = some (.c ⟨1, l.map encR, true, true⟩) ∧ (∀ q z, σ q = some z → σ' q = some z)) (.refl ⟨⟨_, _, _, rfl⟩, upd_is rfl, fun q z hz => ?_⟩) ?_ ?_
  · have h1 : q ≠ n := fun e => by rw [e, HF.out n (by omega)] at hz; cases hz
    simp only [upd_not h1]; exact hz
  · rintro i r K s' σ' n2 hx hi hi' hn2 ⟨⟨a, b, c, rfl⟩, hb, hk⟩ hK
    have HK := Lib.hid hK; clear hK
    have HP := Lib.hid hk; clear hk
    have HN := Lib.hid (rclone_con r (HC.out r (List.mem_of_getElem? hx)))
    have hset : (l.map encR).set i (encR r) = l.map encR := set_same hx
    simp (maxSteps := 1000000) (disch := omega) only [lb_rows_Clone2, encR, go_sem, wrapI, wrapB, upd_is, upd_not, Nat.reduceAdd, Nat.reduceSub, Nat.reduceMul, Nat.reduceLeDiff, Nat.reduceEqDiff, Int.reduceAdd, Int.reduceSub, Int.reduceMul, Int.reduceNeg, Int.reduceLT, Int.reduceLE, Int.reduceEq, Int.reduceToNat, reduceCtorEq, reduceIte, Nat.zero_add, Nat.add_zero, *]
    refine CALL_con0 HN.out (by simp only [List.append_nil, brwL_cons, brwL_nil, brw_tr]) ?_
    simp (maxSteps := 1000000) (disch := omega) only [encR, go_sem, wrapI, wrapB, upd_is, upd_not, Nat.reduceAdd, Nat.reduceSub, Nat.reduceMul, Nat.reduceLeDiff, Nat.reduceEqDiff, Int.reduceAdd, Int.reduceSub, Int.reduceMul, Int.reduceNeg, Int.reduceLT, Int.reduceLE, Int.reduceEq, Int.reduceToNat, reduceCtorEq, reduceIte, Nat.zero_add, Nat.add_zero, *]
    refine HK.out _ _ _ (.refl ⟨⟨_, _, _, rfl⟩, upd_is rfl, fun q z hz => ?_⟩)
    have h1 : q ≠ n := fun e => by rw [e, HF.out n (by omega)] at hz; cases hz
    simp only [upd_not h1]; exact HP.out q z hz
  · rintro K s' σ' n2 hn2 ⟨⟨a, b, c, rfl⟩, hb, hk⟩
    have HP := Lib.hid hk; clear hk
    simp (maxSteps := 1000000) (disch := omega) only [lb_rows_Clone2, Int.lt_irrefl, go_sem, wrapI, wrapB, upd_is, upd_not, Nat.reduceAdd, Nat.reduceSub, Nat.reduceMul, Nat.reduceLeDiff, Nat.reduceEqDiff, Int.reduceAdd, Int.reduceSub, Int.reduceMul, Int.reduceNeg, Int.reduceLT, Int.reduceLE, Int.reduceEq, Int.reduceToNat, reduceCtorEq, reduceIte, Nat.zero_add, Nat.add_zero, *]
    rw [← HR.out]
    exact .inl (wn_new hb (HFR.out _ (Nat.le_refl _)) (HF.out _ (Nat.le_refl _)) HP.out)
end Go.Proofs.Ytlhnncmflnjinaa
set_option maxRecDepth 100000
namespace Go.Proofs.Ytlhnncmflnjinaa
open Go Go.RowKit Am
attribute [-go_sem] guardP_if guardK_if guardD_if COND_bool
attribute [local go_sem low] guardP_if guardK_if guardD_if COND_bool

theorem callD_conW {P : Program} {g : FuncId} {caps args : List AV} {pre : List (Nat × Ob)} {r : AEnd} {wr : Wr} {σ : Hp} {id : Nat} {K : AEnd → Wr → List Nat → Prop} (h : ConW P g (args ++ caps) pre id r wr) (hp : ∀ p ∈ pre, σ p.1 = some p.2)
    (hk : K r wr (pre.map (·.1))) : callD P (.fn g caps) args σ id K := .w ⟨pre, r, wr, hp, h, hk⟩
/-- rows on their way -/
structure TM (t : Tb) (b i : Nat) (l : List Rw) (σ : Hp) : Prop where
  ne : b ≠ i
  box : σ b = some (.c ⟨5, [[.s t.name, .tr (t.columns.map encC), .sc (.int .i64 t.key), .tr (t.indexes.map encX), .ow i 1 0 l.length]], true, false⟩)
  own : σ i = some (.c ⟨1, l.map encR, true, true⟩)
/-- a table's key stands in its columns, which are few -/
structure KOk (t : Tb) : Prop where
  k0 : 0 ≤ t.key
  k1 : t.key < t.columns.length
  cl : t.columns.length ≤ 1048576
theorem takeR (l : List Rw) : (l.map encR).take l.length = l.map encR := List.take_of_length_le (by simp)
attribute [go_sem] takeR
theorem map_ins (l : List Rw) (r : Rw) (i : Nat) : (l.map encR).take i ++ [encR r] ++ (l.map encR).drop i = (l.take i ++ [r] ++ l.drop i).map encR := by
  simp only [List.map_append, List.map_take, List.map_drop, List.map_cons, List.map_nil]
theorem insR_con (i i1 id : Nat) (l : List Rw) (r : Rw) (p : Nat) (hp : p ≤ l.length) (hl : l.length ≤ 256) (hne : i ≠ i1) : ConW Try.prog 121 ([.ow i 1 0 l.length, .sc (.int .i64 p), .ow i1 1 0 1] ++ [])
    [(i, .c ⟨1, l.map encR, true, true⟩), (i1, .c ⟨1, [encR r], true, true⟩)] id (.ret (.ow id 1 0 (l.length + 1))) [(i, none), (id, some (.c ⟨1, (l.take p ++ [r] ++ l.drop p).map encR, true, true⟩))] := by
  have := ins_con (i0 := i) (i1 := i1) (id := id) (rows := l.map encR) (r := encR r) (by kernel_rfl) ins_calls_rows (by omega) (by simp) hp (by omega) (by omega) hne (allRL l) (encR_leaf r)
  rw [map_ins] at this
  exact this
set_option maxHeartbeats 16000000 in
theorem insT_con (t : Tb) (hk : KOk t) (rows l : List Rw) (hl : l.length ≤ 256) (hh : HasK t.key l) (σ : Hp) (n b i : Nat) (hT : TM t b i l σ) :
    ConH Try.prog 74 [.rf b 5 0 0, .tr (rows.map encR)] σ n (fun r σ' _ => r = .ret (.sc (.int .i64 (insF t.columns t.key.toNat l rows).2)) ∧ ∃ i', TM t b i' (insF t.columns t.key.toNat l rows).1 σ') := by
  refine ConH.fresh (by kernel_rfl) fun hf => by_prows_table_insert ?_
  generalize hR : (fun (r' : AEnd) (σ' : Hp) (_ : Nat) => _) = R
  have HR := Lib.hid hR; clear hR
  have hbn : b < n := Nat.lt_of_not_le fun h => by have := hT.box; rw [hf b h] at this; cases this
  have hin : i < n := Nat.lt_of_not_le fun h => by have := hT.own; rw [hf i h] at this; cases this
  clear hf
  have HKO := Lib.hid hk; clear hk
  simp (maxSteps := 1000000) (disch := omega) only [sh_prows_table_insert, go_sem, wrapI, wrapB, upd_is, upd_not, Nat.reduceAdd, Nat.reduceSub, Nat.reduceMul, Nat.reduceLeDiff, Nat.reduceEqDiff, Int.reduceAdd, Int.reduceSub, Int.reduceMul, Int.reduceNeg, Int.reduceLT, Int.reduceLE, Int.reduceEq, Int.reduceToNat, reduceCtorEq, reduceIte, Nat.zero_add, Nat.add_zero, *]
  try intros
  have S0 : Weak (fun (s : List AV) (σ' : Hp) (n' : Nat) => (∃ u1 u2 u3 u4 u5 u6 u7 u8, s = [u1, u2, u3, u4, u5, u6, u7, u8, .sc (.int .i64 0), .sc (.int .i64 (0 : Nat))]) ∧ ∃ i acc, TM t b i acc σ' ∧ insF t.columns t.key.toNat l rows = insF t.columns t.key.toNat acc (rows.drop 0) ∧ acc.length ≤ 256 ∧ HasK t.key acc ∧ i < n' ∧ b < n')
    [.tp [], .tp [], .tp [], .tp [], .tp [], .tp [], .tp [], .tp [], .sc (.int .i64 0), .sc (.int .i64 0)] σ n := .refl ⟨⟨_, _, _, _, _, _, _, _, rfl⟩, i, l, hT, rfl, hl, hh, hin, hbn⟩
  clear hT hl hh hin hbn
  refine LOOP_listM rows (fun j s σ' n' => (∃ u1 u2 u3 u4 u5 u6 u7 u8, s = [u1, u2, u3, u4, u5, u6, u7, u8, .sc (.int .i64 0), .sc (.int .i64 j)]) ∧ ∃ i acc, TM t b i acc σ' ∧ insF t.columns t.key.toNat l rows = insF t.columns t.key.toNat acc (rows.drop j) ∧ acc.length ≤ 256 ∧ HasK t.key acc ∧ i < n' ∧ b < n') S0 ?_ ?_
  · clear S0
    rintro j r K s' σ' n2 hx hj hj' hn2 ⟨⟨u1, u2, u3, u4, u5, u6, u7, u8, rfl⟩, i, acc, ⟨hbi, hb, hi⟩, hw, hl, hh, hin, hbn⟩ hK
    have HK := Lib.hid hK; clear hK
    have hw2 : insF t.columns t.key.toNat acc (rows.drop j) = if fitsF t.columns r ≠ 0 then (acc, fitsF t.columns r) else if is_ t.key.toNat acc (kv t.key.toNat r) = true then (acc, 87) else if acc.length = 256 then (acc, 51)
      else insF t.columns t.key.toNat (acc.take (at_ t.key.toNat acc (kv t.key.toNat r)) ++ [r] ++ acc.drop (at_ t.key.toNat acc (kv t.key.toNat r))) (rows.drop (j + 1)) := by
      rw [drop_at hx, insF]
    have HW := Lib.hid (hw.trans hw2); clear hw hw2
    have HFC := Lib.hid (fits_con t r)
    have HH := Lib.hid hh
    have HI := Lib.hid hi
    have HL := Lib.hid hl
    simp (maxSteps := 1000000) (disch := omega) only [lb_prows_table_insert5, encR, go_sem, wrapI, wrapB, upd_is, upd_not, Nat.reduceAdd, Nat.reduceSub, Nat.reduceMul, Nat.reduceLeDiff, Nat.reduceEqDiff, Int.reduceAdd, Int.reduceSub, Int.reduceMul, Int.reduceNeg, Int.reduceLT, Int.reduceLE, Int.reduceEq, Int.reduceToNat, reduceCtorEq, reduceIte, Nat.zero_add, Nat.add_zero, *]
    refine CALL_con0 HFC.out (by simp (maxSteps := 1000000) (disch := omega) only [encT, go_sem, wrapI, wrapB, upd_is, upd_not, Nat.reduceAdd, Nat.reduceSub, Nat.reduceMul, Nat.reduceLeDiff, Nat.reduceEqDiff, Int.reduceAdd, Int.reduceSub, Int.reduceMul, Int.reduceNeg, Int.reduceLT, Int.reduceLE, Int.reduceEq, Int.reduceToNat, reduceCtorEq, reduceIte, Nat.zero_add, Nat.add_zero, *]) ?_
    by_cases h3 : fitsF t.columns r = 0
    · rw [if_neg (by simp [h3])] at HW
      have hrl : r.length = t.columns.length := fits_len h3
      have hkx := kv_at HKO.out.k0 (by have := HKO.out.k1; omega : t.key < r.length)
      have HP := Lib.hid (rplace_con t acc (kv t.key.toNat r) hh)
      have hkk := HKO.out.k0
      simp (maxSteps := 1000000) (disch := omega) only [go_sem, wrapI, wrapB, upd_is, upd_not, Nat.reduceAdd, Nat.reduceSub, Nat.reduceMul, Nat.reduceLeDiff, Nat.reduceEqDiff, Int.reduceAdd, Int.reduceSub, Int.reduceMul, Int.reduceNeg, Int.reduceLT, Int.reduceLE, Int.reduceEq, Int.reduceToNat, reduceCtorEq, reduceIte, Nat.zero_add, Nat.add_zero, *]
      refine callD_conS (I := [i]) HP.out (by rw [show encT t = [AV.s t.name, AV.tr (List.map encC t.columns), AV.sc (Value.int IntKind.i64 t.key), AV.tr (List.map encX t.indexes)] from rfl]; simp (disch := omega) [brwL_cons, brwL_nil, brw_ag, brw_s, brw_tr, brw_sc, brw_ow', hi, encV_brw, takeR]) rfl ?_
      have hat := at_le t.key.toNat acc (kv t.key.toNat r)
      cases his : is_ t.key.toNat acc (kv t.key.toNat r) with
      | true =>
        rw [if_pos his] at HW
        simp (maxSteps := 1000000) (disch := omega) only [go_sem, wrapI, wrapB, upd_is, upd_not, Nat.reduceAdd, Nat.reduceSub, Nat.reduceMul, Nat.reduceLeDiff, Nat.reduceEqDiff, Int.reduceAdd, Int.reduceSub, Int.reduceMul, Int.reduceNeg, Int.reduceLT, Int.reduceLE, Int.reduceEq, Int.reduceToNat, reduceCtorEq, reduceIte, Nat.zero_add, Nat.add_zero, *]
        intro n3 hn3
        rw [← HR.out, HW.out]
        exact ⟨rfl, i, hbi, hb, hi⟩
      | false =>
        rw [if_neg (by simp [his])] at HW
        by_cases hfull : acc.length = 256
        · have hf2 : (acc.length : Int) = 256 := by omega
          rw [if_pos hfull] at HW
          clear hfull
          simp (maxSteps := 1000000) (disch := omega) only [go_sem, wrapI, wrapB, upd_is, upd_not, Nat.reduceAdd, Nat.reduceSub, Nat.reduceMul, Nat.reduceLeDiff, Nat.reduceEqDiff, Int.reduceAdd, Int.reduceSub, Int.reduceMul, Int.reduceNeg, Int.reduceLT, Int.reduceLE, Int.reduceEq, Int.reduceToNat, reduceCtorEq, reduceIte, Nat.zero_add, Nat.add_zero, *]
          intro n3 hn3
          intros
          rw [← HR.out, HW.out]
          exact ⟨rfl, i, hbi, hb, hi⟩
        · have hf2 : ¬ (acc.length : Int) = 256 := by omega
          rw [if_neg hfull] at HW
          have HNF := Lib.hid hfull; clear hfull
          have HC := Lib.hid (rclone_con r (by have := HKO.out.cl; omega))
          simp (maxSteps := 1000000) (disch := omega) only [go_sem, wrapI, wrapB, upd_is, upd_not, Nat.reduceAdd, Nat.reduceSub, Nat.reduceMul, Nat.reduceLeDiff, Nat.reduceEqDiff, Int.reduceAdd, Int.reduceSub, Int.reduceMul, Int.reduceNeg, Int.reduceLT, Int.reduceLE, Int.reduceEq, Int.reduceToNat, reduceCtorEq, reduceIte, Nat.zero_add, Nat.add_zero, *]
          intro n3 hn3
          intros
          refine callD_con0 HC.out (by simp only [List.append_nil, brwL_cons, brwL_nil, brw_tr]) ?_
          simp (maxSteps := 1000000) (disch := omega) only [go_sem, wrapI, wrapB, upd_is, upd_not, Nat.reduceAdd, Nat.reduceSub, Nat.reduceMul, Nat.reduceLeDiff, Nat.reduceEqDiff, Int.reduceAdd, Int.reduceSub, Int.reduceMul, Int.reduceNeg, Int.reduceLT, Int.reduceLE, Int.reduceEq, Int.reduceToNat, reduceCtorEq, reduceIte, Nat.zero_add, Nat.add_zero, *]
          have hi3 : i ≠ n3 + 128 := by omega
          have hb3 : b ≠ n3 + 128 := by omega
          have hb4 : ¬ b = n3 + 144 := by omega
          have hb5 : ¬ n3 + 128 = b := by omega
          refine callD_conW (insR_con i (n3 + 128) (n3 + 144) acc r (at_ t.key.toNat acc (kv t.key.toNat r)) hat hl hi3) ?_ ?_
          · intro p hp
            rcases List.mem_cons.1 hp with rfl | hp
            · simp only [upd_not hi3]; exact hi
            · rcases List.mem_cons.1 hp with rfl | hp
              · exact upd_is rfl
              · cases hp
          · simp (maxSteps := 1000000) (disch := omega) only [go_sem, wrapI, wrapB, upd_is, upd_not, Nat.reduceAdd, Nat.reduceSub, Nat.reduceMul, Nat.reduceLeDiff, Nat.reduceEqDiff, Int.reduceAdd, Int.reduceSub, Int.reduceMul, Int.reduceNeg, Int.reduceLT, Int.reduceLE, Int.reduceEq, Int.reduceToNat, reduceCtorEq, reduceIte, Nat.zero_add, Nat.add_zero, *]
            have hnl : (acc.take (at_ t.key.toNat acc (kv t.key.toNat r)) ++ [r] ++ acc.drop (at_ t.key.toNat acc (kv t.key.toNat r))).length = acc.length + 1 := by simp; omega
            refine ⟨fun x hx => by omega, fun n4 hn4 => HK.out _ _ _ (.refl ⟨⟨_, _, _, _, _, _, _, _, rfl⟩, n3 + 144, _, ⟨by omega, ?_, ?_⟩, HW.out, by have := HNF.out; omega, ⟨hh.1, fun x hx => ?_⟩, by omega, by omega⟩)⟩
            · rw [hnl]; exact upd_is rfl
            · rw [upd_not (by omega)]; exact upd_is rfl
            · rcases List.mem_append.1 hx with hx | hx
              · rcases List.mem_append.1 hx with hx | hx
                · exact hh.2 x (List.mem_of_mem_take hx)
                · simp at hx; subst hx; have := HKO.out.k1; omega
              · exact hh.2 x (List.mem_of_mem_drop hx)
    · simp (maxSteps := 1000000) (disch := omega) only [go_sem, wrapI, wrapB, upd_is, upd_not, Nat.reduceAdd, Nat.reduceSub, Nat.reduceMul, Nat.reduceLeDiff, Nat.reduceEqDiff, Int.reduceAdd, Int.reduceSub, Int.reduceMul, Int.reduceNeg, Int.reduceLT, Int.reduceLE, Int.reduceEq, Int.reduceToNat, reduceCtorEq, reduceIte, Nat.zero_add, Nat.add_zero, *]
      rw [← HR.out, HW.out, if_pos h3]
      exact ⟨rfl, i, hbi, hb, hi⟩
  · rintro K s' σ' n2 hn2 ⟨⟨u1, u2, u3, u4, u5, u6, u7, u8, rfl⟩, i, acc, hT, hw, hl, hh, hin, hbn⟩
    rw [List.drop_length] at hw
    have HT := Lib.hid hT; clear hT
    simp (maxSteps := 1000000) (disch := omega) only [lb_prows_table_insert5, Int.lt_irrefl, go_sem, wrapI, wrapB, upd_is, upd_not, Nat.reduceAdd, Nat.reduceSub, Nat.reduceMul, Nat.reduceLeDiff, Nat.reduceEqDiff, Int.reduceAdd, Int.reduceSub, Int.reduceMul, Int.reduceNeg, Int.reduceLT, Int.reduceLE, Int.reduceEq, Int.reduceToNat, reduceCtorEq, reduceIte, Nat.zero_add, Nat.add_zero, *]
    rw [← HR.out, hw]
    exact ⟨rfl, i, HT.out⟩
theorem map_del (l : List Rw) (i j : Nat) : (l.map encR).take i ++ (l.map encR).drop j = (l.take i ++ l.drop j).map encR := by
  simp only [List.map_append, List.map_take, List.map_drop]
theorem delR_con (i id : Nat) (l : List Rw) (p : Nat) (hp : p < l.length) (hl : l.length ≤ 256) : ConW Try.prog 128 ([.ow i 1 0 l.length, .sc (.int .i64 p), .sc (.int .i64 (p + 1 : Nat))] ++ [])
    [(i, .c ⟨1, l.map encR, true, true⟩)] id (.ret (.ow id 1 0 (l.length - 1))) [(i, none), (id, some (.c ⟨1, (l.take p ++ l.drop (p + 1)).map encR, true, true⟩))] := by
  have := del_con (i0 := i) (id := id) (n := l.length) (i := p) (j := p + 1) (rows := l.map encR) (by kernel_rfl) del_calls_rows (by simp) (by omega) (by omega) (by omega) (allRL l)
  rw [map_del, show p + 1 - p = 1 by omega] at this
  exact this
set_option maxHeartbeats 16000000 in
theorem remT_con (t : Tb) (keys : List Vl) (l : List Rw) (hl : l.length ≤ 256) (hh : HasK t.key l) (σ : Hp) (n b i : Nat) (hT : TM t b i l σ) :
    ConH Try.prog 80 [.rf b 5 0 0, .tr (keys.map encV)] σ n (fun r σ' _ => r = .ret (.sc (.int .i64 (remF t.key.toNat l keys).2)) ∧ ∃ i', TM t b i' (remF t.key.toNat l keys).1 σ') := by
  refine ConH.fresh (by kernel_rfl) fun hf => by_prows_table_remove ?_
  generalize hR : (fun (r' : AEnd) (σ' : Hp) (_ : Nat) => _) = R
  have HR := Lib.hid hR; clear hR
  have hbn : b < n := Nat.lt_of_not_le fun h => by have := hT.box; rw [hf b h] at this; cases this
  have hin : i < n := Nat.lt_of_not_le fun h => by have := hT.own; rw [hf i h] at this; cases this
  clear hf
  simp (maxSteps := 1000000) (disch := omega) only [sh_prows_table_remove, go_sem, wrapI, wrapB, upd_is, upd_not, Nat.reduceAdd, Nat.reduceSub, Nat.reduceMul, Nat.reduceLeDiff, Nat.reduceEqDiff, Int.reduceAdd, Int.reduceSub, Int.reduceMul, Int.reduceNeg, Int.reduceLT, Int.reduceLE, Int.reduceEq, Int.reduceToNat, reduceCtorEq, reduceIte, Nat.zero_add, Nat.add_zero, *]
  try intros
  have S0 : Weak (fun (s : List AV) (σ' : Hp) (n' : Nat) => (∃ u1 u2 u3 u4 u5, s = [u1, u2, u3, u4, u5, .sc (.int .i64 0), .sc (.int .i64 (0 : Nat))]) ∧ ∃ i acc, TM t b i acc σ' ∧ remF t.key.toNat l keys = remF t.key.toNat acc (keys.drop 0) ∧ acc.length ≤ 256 ∧ HasK t.key acc ∧ i < n' ∧ b < n')
    [.tp [], .tp [], .tp [], .tp [], .tp [], .sc (.int .i64 0), .sc (.int .i64 0)] σ n := .refl ⟨⟨_, _, _, _, _, rfl⟩, i, l, hT, rfl, hl, hh, hin, hbn⟩
  clear hT hl hh hin hbn
  refine LOOP_listM keys (fun j s σ' n' => (∃ u1 u2 u3 u4 u5, s = [u1, u2, u3, u4, u5, .sc (.int .i64 0), .sc (.int .i64 j)]) ∧ ∃ i acc, TM t b i acc σ' ∧ remF t.key.toNat l keys = remF t.key.toNat acc (keys.drop j) ∧ acc.length ≤ 256 ∧ HasK t.key acc ∧ i < n' ∧ b < n') S0 ?_ ?_
  · clear S0
    rintro j x K s' σ' n2 hx hj hj' hn2 ⟨⟨u1, u2, u3, u4, u5, rfl⟩, i, acc, ⟨hbi, hb, hi⟩, hw, hl, hh, hin, hbn⟩ hK
    have HK := Lib.hid hK; clear hK
    have hw2 : remF t.key.toNat acc (keys.drop j) = if is_ t.key.toNat acc x = false then (acc, 71) else remF t.key.toNat (acc.take (at_ t.key.toNat acc x) ++ acc.drop (at_ t.key.toNat acc x + 1)) (keys.drop (j + 1)) := by
      rw [drop_at hx, remF]
    have HW := Lib.hid (hw.trans hw2); clear hw hw2
    have HP := Lib.hid (rplace_con t acc x hh)
    have hb2 : b ≠ n2 := by omega
    have hi2 : i ≠ n2 := by omega
    have hb2' : ¬ n2 = b := by omega
    simp (maxSteps := 1000000) (disch := omega) only [lb_prows_table_remove3, go_sem, wrapI, wrapB, upd_is, upd_not, Nat.reduceAdd, Nat.reduceSub, Nat.reduceMul, Nat.reduceLeDiff, Nat.reduceEqDiff, Int.reduceAdd, Int.reduceSub, Int.reduceMul, Int.reduceNeg, Int.reduceLT, Int.reduceLE, Int.reduceEq, Int.reduceToNat, reduceCtorEq, reduceIte, Nat.zero_add, Nat.add_zero, *]
    refine callD_conS (I := [i]) HP.out (by rw [show encT t = [AV.s t.name, AV.tr (List.map encC t.columns), AV.sc (Value.int IntKind.i64 t.key), AV.tr (List.map encX t.indexes)] from rfl]; simp (disch := omega) [brwL_cons, brwL_nil, brw_ag, brw_s, brw_tr, brw_sc, brw_ow', hi, upd_not, encV_brw, takeR]) rfl ?_
    have hat := at_le t.key.toNat acc x
    cases his : is_ t.key.toNat acc x with
    | false =>
      rw [if_pos his] at HW
      simp (maxSteps := 1000000) (disch := omega) only [go_sem, wrapI, wrapB, upd_is, upd_not, Nat.reduceAdd, Nat.reduceSub, Nat.reduceMul, Nat.reduceLeDiff, Nat.reduceEqDiff, Int.reduceAdd, Int.reduceSub, Int.reduceMul, Int.reduceNeg, Int.reduceLT, Int.reduceLE, Int.reduceEq, Int.reduceToNat, reduceCtorEq, reduceIte, Nat.zero_add, Nat.add_zero, *]
      intro n3 hn3
      rw [← HR.out, HW.out]
      exact ⟨rfl, i, hbi, by rw [upd_not hb2, upd_not hb2]; exact hb, by rw [upd_not hi2, upd_not hi2]; exact hi⟩
    | true =>
      rw [if_neg (by simp [his])] at HW
      have hlt : at_ t.key.toNat acc x < acc.length := by
        unfold is_ at his
        simp only [Bool.and_eq_true, decide_eq_true_eq] at his
        exact his.1
      simp (maxSteps := 1000000) (disch := omega) only [go_sem, wrapI, wrapB, upd_is, upd_not, Nat.reduceAdd, Nat.reduceSub, Nat.reduceMul, Nat.reduceLeDiff, Nat.reduceEqDiff, Int.reduceAdd, Int.reduceSub, Int.reduceMul, Int.reduceNeg, Int.reduceLT, Int.reduceLE, Int.reduceEq, Int.reduceToNat, reduceCtorEq, reduceIte, Nat.zero_add, Nat.add_zero, *]
      intro n3 hn3
      have hi3 : i ≠ n3 := by omega
      have hb3 : b ≠ n3 := by omega
      refine CALL_conW (delR_con i n3 acc (at_ t.key.toNat acc x) hlt hl) ?_ ?_
      · intro p hp
        rcases List.mem_cons.1 hp with rfl | hp
        · simp only [upd_not hi2]; exact hi
        · cases hp
      · intro n4 hn4
        simp (maxSteps := 1000000) (disch := omega) only [go_sem, wrapI, wrapB, upd_is, upd_not, Nat.reduceAdd, Nat.reduceSub, Nat.reduceMul, Nat.reduceLeDiff, Nat.reduceEqDiff, Int.reduceAdd, Int.reduceSub, Int.reduceMul, Int.reduceNeg, Int.reduceLT, Int.reduceLE, Int.reduceEq, Int.reduceToNat, reduceCtorEq, reduceIte, Nat.zero_add, Nat.add_zero, *]
        have hnl : (acc.take (at_ t.key.toNat acc x) ++ acc.drop (at_ t.key.toNat acc x + 1)).length = acc.length - 1 := by simp; omega
        refine HK.out _ _ _ (.refl ⟨⟨_, _, _, _, _, rfl⟩, n3, _, ⟨hb3, ?_, ?_⟩, HW.out, by omega, ⟨hh.1, fun y hy => ?_⟩, by omega, by omega⟩)
        · rw [hnl]; exact upd_is rfl
        · rw [upd_not (by omega)]; exact upd_is rfl
        · rcases List.mem_append.1 hy with hy | hy
          · exact hh.2 y (List.mem_of_mem_take hy)
          · exact hh.2 y (List.mem_of_mem_drop hy)
  · rintro K s' σ' n2 hn2 ⟨⟨u1, u2, u3, u4, u5, rfl⟩, i, acc, hT, hw, hl, hh, hin, hbn⟩
    rw [List.drop_length] at hw
    have HT := Lib.hid hT; clear hT
    simp (maxSteps := 1000000) (disch := omega) only [lb_prows_table_remove3, Int.lt_irrefl, go_sem, wrapI, wrapB, upd_is, upd_not, Nat.reduceAdd, Nat.reduceSub, Nat.reduceMul, Nat.reduceLeDiff, Nat.reduceEqDiff, Int.reduceAdd, Int.reduceSub, Int.reduceMul, Int.reduceNeg, Int.reduceLT, Int.reduceLE, Int.reduceEq, Int.reduceToNat, reduceCtorEq, reduceIte, Nat.zero_add, Nat.add_zero, *]
    rw [← HR.out, hw]
    exact ⟨rfl, i, HT.out⟩
end Go.Proofs.Ytlhnncmflnjinaa
set_option maxRecDepth 100000
namespace Go.Proofs.Ytlhnncmflnjinaa
open Go Go.RowKit Am
attribute [-go_sem] guardP_if guardK_if guardD_if COND_bool
attribute [local go_sem low] guardP_if guardK_if guardD_if COND_bool

theorem CALL_conH {P : Program} {g : FuncId} {caps args : List AV} {R : AEnd → Hp → Nat → Prop} {σ : Hp} {n : Nat} {K : AEnd → Hp → Nat → Prop} (h : ConH P g (args ++ caps) σ n R) (hk : ∀ r σ' n', R r σ' n' → n ≤ n' → K r σ' n') : CALL P (.fn g caps) args σ n K := .h ⟨R, h, hk⟩
def DoH (f : FuncId) (caps : List AV) (t : Tb) (d : List Rw → List Rw × Int) : Prop :=
  ∀ (l : List Rw), l.length ≤ 256 → HasK t.key l → ∀ (σ : Hp) (n b i : Nat), TM t b i l σ → ConH Try.prog f ([.rf b 5 0 0] ++ caps) σ n (fun r σ' _ => r = .ret (.sc (.int .i64 (d l).2)) ∧ ∃ i', TM t b i' (d l).1 σ')
theorem may_cols {t : Tb} (h : mayF t = true) : t.columns.length ≤ 8 := by
  unfold mayF at h
  by_cases e : 8 < (t.columns.length : Int)
  · rw [if_pos (.inr (.inr (.inl e)))] at h; cases h
  · omega
theorem okr_kok {t : Tb} {l : List Rw} (h : Okr t l) : KOk t := ⟨(may_key h.may).1, (may_key h.may).2, by have := may_cols h.may; omega⟩
theorem okr_has {t : Tb} {l : List Rw} (h : Okr t l) : HasK t.key l := ⟨(may_key h.may).1, fun r hr => by have := fits_len (h.fit r hr); have := (may_key h.may).2; omega⟩
set_option maxHeartbeats 4000000 in
theorem change_con (t : Tb) (l : List Rw) (ht : TRg t) (f : FuncId) (caps : List AV) (d : List Rw → List Rw × Int) (hc : ∀ σ k, brwL σ (k + 1) caps = some (caps, [])) (hd : rowsF t l = 0 → DoH f caps t d) :
    Con Try.prog 72 [.ag (encT t), .tr (l.map encR), .fn f caps] (.ret (.tp [.tr ((changeF t l d).1.map encR), .sc (.int .i64 (changeF t l d).2)])) := by
  refine con_of (by_rows_change ?_)
  generalize hR : RC _ = R
  have HR := Lib.hid hR; clear hR
  have HC := Lib.hid (rcheck_con t l ht)
  by_cases h : rowsF t l = 0
  · have HD := Lib.hid (hd h); clear hd
    have hO := rowsF_zero.1 h
    have HCl := Lib.hid (rowsClone_con l (by have := hO.len; omega) (fun r hr => by have := fits_len (hO.fit r hr); have := may_cols hO.may; omega) (16 * 3))
    have HO := Lib.hid hO; clear hO ht
    simp (maxSteps := 1000000) (disch := omega) only [sh_rows_change, go_sem, wrapI, wrapB, upd_is, upd_not, Nat.reduceAdd, Nat.reduceSub, Nat.reduceMul, Nat.reduceLeDiff, Nat.reduceEqDiff, Int.reduceAdd, Int.reduceSub, Int.reduceMul, Int.reduceNeg, Int.reduceLT, Int.reduceLE, Int.reduceEq, Int.reduceToNat, reduceCtorEq, reduceIte, Nat.zero_add, Nat.add_zero, *]
    refine CALL_con0 HC.out (by simp (maxSteps := 1000000) (disch := omega) only [encT, go_sem, wrapI, wrapB, upd_is, upd_not, Nat.reduceAdd, Nat.reduceSub, Nat.reduceMul, Nat.reduceLeDiff, Nat.reduceEqDiff, Int.reduceAdd, Int.reduceSub, Int.reduceMul, Int.reduceNeg, Int.reduceLT, Int.reduceLE, Int.reduceEq, Int.reduceToNat, reduceCtorEq, reduceIte, Nat.zero_add, Nat.add_zero, *]) ?_
    simp (maxSteps := 1000000) (disch := omega) only [go_sem, wrapI, wrapB, upd_is, upd_not, Nat.reduceAdd, Nat.reduceSub, Nat.reduceMul, Nat.reduceLeDiff, Nat.reduceEqDiff, Int.reduceAdd, Int.reduceSub, Int.reduceMul, Int.reduceNeg, Int.reduceLT, Int.reduceLE, Int.reduceEq, Int.reduceToNat, reduceCtorEq, reduceIte, Nat.zero_add, Nat.add_zero, *]
    refine callD_conW (HCl.out) (by simp) ?_
    simp (maxSteps := 1000000) (disch := omega) only [encT, go_sem, wrapI, wrapB, upd_is, upd_not, Nat.reduceAdd, Nat.reduceSub, Nat.reduceMul, Nat.reduceLeDiff, Nat.reduceEqDiff, Int.reduceAdd, Int.reduceSub, Int.reduceMul, Int.reduceNeg, Int.reduceLT, Int.reduceLE, Int.reduceEq, Int.reduceToNat, reduceCtorEq, reduceIte, Nat.zero_add, Nat.add_zero, *]
    refine ⟨fun x hx => by omega, fun n3 hn3 => ?_⟩
    refine CALL_conH (HD.out l (by have := HO.out.len; omega) (okr_has HO.out) _ n3 80 48 ⟨by omega, upd_is rfl, ?_⟩) ?_
    · simp (disch := omega) only [upd_is, upd_not]
    · rintro r σ' n4 ⟨rfl, i', hT⟩ hn4
      have hcf : changeF t l d = if (d l).2 ≠ 0 then ([], (d l).2) else ((d l).1, 0) := by unfold changeF; rw [if_neg (by simp [h])]
      have HCF := Lib.hid hcf
      have hbx := hT.box
      have hown := hT.own
      by_cases h2 : (d l).2 = 0
      · simp (maxSteps := 1000000) (disch := omega) only [go_sem, wrapI, wrapB, upd_is, upd_not, Nat.reduceAdd, Nat.reduceSub, Nat.reduceMul, Nat.reduceLeDiff, Nat.reduceEqDiff, Int.reduceAdd, Int.reduceSub, Int.reduceMul, Int.reduceNeg, Int.reduceLT, Int.reduceLE, Int.reduceEq, Int.reduceToNat, reduceCtorEq, reduceIte, Nat.zero_add, Nat.add_zero, *]
        rw [← HR.out, HCF.out, if_neg (by simp [h2])]
        refine RC_ret (by simp (disch := omega) only [brw_tp, brwL_cons, brwL_nil, brw_sc, brw_ow', hown]; rw [if_pos (by simp)]; rfl) ?_
        simp [List.take_of_length_le]
      · simp (maxSteps := 1000000) (disch := omega) only [go_sem, wrapI, wrapB, upd_is, upd_not, Nat.reduceAdd, Nat.reduceSub, Nat.reduceMul, Nat.reduceLeDiff, Nat.reduceEqDiff, Int.reduceAdd, Int.reduceSub, Int.reduceMul, Int.reduceNeg, Int.reduceLT, Int.reduceLE, Int.reduceEq, Int.reduceToNat, reduceCtorEq, reduceIte, Nat.zero_add, Nat.add_zero, *]
        rw [← HR.out, HCF.out, if_pos h2]
        exact RC_ret rfl rfl
  · clear ht hd hc
    simp (maxSteps := 1000000) (disch := omega) only [sh_rows_change, go_sem, wrapI, wrapB, upd_is, upd_not, Nat.reduceAdd, Nat.reduceSub, Nat.reduceMul, Nat.reduceLeDiff, Nat.reduceEqDiff, Int.reduceAdd, Int.reduceSub, Int.reduceMul, Int.reduceNeg, Int.reduceLT, Int.reduceLE, Int.reduceEq, Int.reduceToNat, reduceCtorEq, reduceIte, Nat.zero_add, Nat.add_zero, *]
    refine CALL_con0 HC.out (by simp (maxSteps := 1000000) (disch := omega) only [encT, go_sem, wrapI, wrapB, upd_is, upd_not, Nat.reduceAdd, Nat.reduceSub, Nat.reduceMul, Nat.reduceLeDiff, Nat.reduceEqDiff, Int.reduceAdd, Int.reduceSub, Int.reduceMul, Int.reduceNeg, Int.reduceLT, Int.reduceLE, Int.reduceEq, Int.reduceToNat, reduceCtorEq, reduceIte, Nat.zero_add, Nat.add_zero, *]) ?_
    simp (maxSteps := 1000000) (disch := omega) only [go_sem, wrapI, wrapB, upd_is, upd_not, Nat.reduceAdd, Nat.reduceSub, Nat.reduceMul, Nat.reduceLeDiff, Nat.reduceEqDiff, Int.reduceAdd, Int.reduceSub, Int.reduceMul, Int.reduceNeg, Int.reduceLT, Int.reduceLE, Int.reduceEq, Int.reduceToNat, reduceCtorEq, reduceIte, Nat.zero_add, Nat.add_zero, *]
    rw [← HR.out]
    exact RC_ret rfl (by unfold changeF; rw [if_pos h]; rfl)
theorem insert_do (t : Tb) (hk : KOk t) (rows : List Rw) : DoH 73 [.fp [.tr (rows.map encR)]] t (fun a => insF t.columns t.key.toNat a rows) := by
  intro l hl hh σ n b i hT
  refine by_rows_Insert_c1 ?_
  generalize hR : (fun (r' : AEnd) (σ' : Hp) (_ : Nat) => _) = R
  have HR := Lib.hid hR; clear hR
  have HI := Lib.hid (insT_con t hk rows l hl hh σ n b i hT)
  clear hT
  simp (maxSteps := 1000000) (disch := omega) only [sh_rows_Insert_c1, go_sem, wrapI, wrapB, upd_is, upd_not, Nat.reduceAdd, Nat.reduceSub, Nat.reduceMul, Nat.reduceLeDiff, Nat.reduceEqDiff, Int.reduceAdd, Int.reduceSub, Int.reduceMul, Int.reduceNeg, Int.reduceLT, Int.reduceLE, Int.reduceEq, Int.reduceToNat, reduceCtorEq, reduceIte, Nat.zero_add, Nat.add_zero, *]
  refine CALL_conH (caps := []) HI.out ?_
  rintro r σ' n4 ⟨rfl, h⟩ hn4
  have H := Lib.hid h; clear h
  simp (maxSteps := 1000000) (disch := omega) only [go_sem, wrapI, wrapB, upd_is, upd_not, Nat.reduceAdd, Nat.reduceSub, Nat.reduceMul, Nat.reduceLeDiff, Nat.reduceEqDiff, Int.reduceAdd, Int.reduceSub, Int.reduceMul, Int.reduceNeg, Int.reduceLT, Int.reduceLE, Int.reduceEq, Int.reduceToNat, reduceCtorEq, reduceIte, Nat.zero_add, Nat.add_zero, *]
  rw [← HR.out]
  exact ⟨rfl, H.out⟩
theorem delete_do (t : Tb) (keys : List Vl) : DoH 79 [.fp [.tr (keys.map encV)]] t (fun a => remF t.key.toNat a keys) := by
  intro l hl hh σ n b i hT
  refine by_rows_Delete_c1 ?_
  generalize hR : (fun (r' : AEnd) (σ' : Hp) (_ : Nat) => _) = R
  have HR := Lib.hid hR; clear hR
  have HI := Lib.hid (remT_con t keys l hl hh σ n b i hT)
  clear hT
  simp (maxSteps := 1000000) (disch := omega) only [sh_rows_Delete_c1, go_sem, wrapI, wrapB, upd_is, upd_not, Nat.reduceAdd, Nat.reduceSub, Nat.reduceMul, Nat.reduceLeDiff, Nat.reduceEqDiff, Int.reduceAdd, Int.reduceSub, Int.reduceMul, Int.reduceNeg, Int.reduceLT, Int.reduceLE, Int.reduceEq, Int.reduceToNat, reduceCtorEq, reduceIte, Nat.zero_add, Nat.add_zero, *]
  refine CALL_conH (caps := []) HI.out ?_
  rintro r σ' n4 ⟨rfl, h⟩ hn4
  have H := Lib.hid h; clear h
  simp (maxSteps := 1000000) (disch := omega) only [go_sem, wrapI, wrapB, upd_is, upd_not, Nat.reduceAdd, Nat.reduceSub, Nat.reduceMul, Nat.reduceLeDiff, Nat.reduceEqDiff, Int.reduceAdd, Int.reduceSub, Int.reduceMul, Int.reduceNeg, Int.reduceLT, Int.reduceLE, Int.reduceEq, Int.reduceToNat, reduceCtorEq, reduceIte, Nat.zero_add, Nat.add_zero, *]
  rw [← HR.out]
  exact ⟨rfl, H.out⟩
theorem remF_len (k : Nat) : ∀ (keys : List Vl) (l : List Rw), (remF k l keys).1.length ≤ l.length
  | [], l => Nat.le_refl _
  | x :: xs, l => by
    rw [remF]
    split
    · exact Nat.le_refl _
    · exact Nat.le_trans (remF_len k xs _) (by simp; omega)
theorem remF_mem (k : Nat) : ∀ (keys : List Vl) (l : List Rw), ∀ r ∈ (remF k l keys).1, r ∈ l
  | [], l => fun r h => h
  | x :: xs, l => fun r h => by
    rw [remF] at h
    split at h
    · exact h
    · have := remF_mem k xs _ r h
      rcases List.mem_append.1 this with h | h
      · exact List.mem_of_mem_take h
      · exact List.mem_of_mem_drop h
set_option maxHeartbeats 4000000 in
theorem update_do (t : Tb) (hk : KOk t) (keys : List Vl) (rows : List Rw) : DoH 119 [.fp [.tr (keys.map encV)], .fp [.tr (rows.map encR)]] t
    (fun a => if keys.length ≠ rows.length then (a, 3) else if (remF t.key.toNat a keys).2 ≠ 0 then remF t.key.toNat a keys else insF t.columns t.key.toNat (remF t.key.toNat a keys).1 rows) := by
  intro l hl hh σ n b i hT
  refine by_rows_Update_c1 ?_
  generalize hR : (fun (r' : AEnd) (σ' : Hp) (_ : Nat) => _) = R
  have HR := Lib.hid hR; clear hR
  have HI := Lib.hid (remT_con t keys l hl hh σ n b i hT)
  have HT := Lib.hid hT; clear hT
  have HK := Lib.hid hk; clear hk
  dsimp only at HR
  by_cases h1 : (keys.length : Int) = rows.length
  · have h1' : keys.length = rows.length := by omega
    rw [if_neg (by simp [h1'])] at HR
    have H1 := Lib.hid h1'; clear h1'
    simp (maxSteps := 1000000) (disch := omega) only [sh_rows_Update_c1, go_sem, wrapI, wrapB, upd_is, upd_not, Nat.reduceAdd, Nat.reduceSub, Nat.reduceMul, Nat.reduceLeDiff, Nat.reduceEqDiff, Int.reduceAdd, Int.reduceSub, Int.reduceMul, Int.reduceNeg, Int.reduceLT, Int.reduceLE, Int.reduceEq, Int.reduceToNat, reduceCtorEq, reduceIte, Nat.zero_add, Nat.add_zero, *]
    intros
    refine CALL_conH (caps := []) HI.out ?_
    rintro r σ' n4 ⟨rfl, h⟩ hn4
    have H := Lib.hid h; clear h
    by_cases h2 : (remF t.key.toNat l keys).2 = 0
    · rw [if_neg (by simp [h2])] at HR
      simp (maxSteps := 1000000) (disch := omega) only [go_sem, wrapI, wrapB, upd_is, upd_not, Nat.reduceAdd, Nat.reduceSub, Nat.reduceMul, Nat.reduceLeDiff, Nat.reduceEqDiff, Int.reduceAdd, Int.reduceSub, Int.reduceMul, Int.reduceNeg, Int.reduceLT, Int.reduceLE, Int.reduceEq, Int.reduceToNat, reduceCtorEq, reduceIte, Nat.zero_add, Nat.add_zero, *]
      obtain ⟨i', hT'⟩ := H.out
      have hl2 : (remF t.key.toNat l keys).1.length ≤ 256 := Nat.le_trans (remF_len _ _ _) hl
      have hh2 : HasK t.key (remF t.key.toNat l keys).1 := ⟨hh.1, fun r hr => hh.2 r (remF_mem _ _ _ r hr)⟩
      refine CALL_conH (caps := []) (insT_con t HK.out rows _ hl2 hh2 σ' n4 b i' hT') ?_
      rintro r σ2 n5 ⟨rfl, h⟩ hn5
      have H := Lib.hid h; clear h
      simp (maxSteps := 1000000) (disch := omega) only [go_sem, wrapI, wrapB, upd_is, upd_not, Nat.reduceAdd, Nat.reduceSub, Nat.reduceMul, Nat.reduceLeDiff, Nat.reduceEqDiff, Int.reduceAdd, Int.reduceSub, Int.reduceMul, Int.reduceNeg, Int.reduceLT, Int.reduceLE, Int.reduceEq, Int.reduceToNat, reduceCtorEq, reduceIte, Nat.zero_add, Nat.add_zero, *]
      rw [← HR.out]
      exact ⟨rfl, H.out⟩
    · rw [if_pos (by simpa using h2)] at HR
      simp (maxSteps := 1000000) (disch := omega) only [go_sem, wrapI, wrapB, upd_is, upd_not, Nat.reduceAdd, Nat.reduceSub, Nat.reduceMul, Nat.reduceLeDiff, Nat.reduceEqDiff, Int.reduceAdd, Int.reduceSub, Int.reduceMul, Int.reduceNeg, Int.reduceLT, Int.reduceLE, Int.reduceEq, Int.reduceToNat, reduceCtorEq, reduceIte, Nat.zero_add, Nat.add_zero, *]
      rw [← HR.out]
      exact ⟨rfl, H.out⟩
  · have h1' : keys.length ≠ rows.length := by omega
    rw [if_pos h1'] at HR
    clear h1' HI
    simp (maxSteps := 1000000) (disch := omega) only [sh_rows_Update_c1, go_sem, wrapI, wrapB, upd_is, upd_not, Nat.reduceAdd, Nat.reduceSub, Nat.reduceMul, Nat.reduceLeDiff, Nat.reduceEqDiff, Int.reduceAdd, Int.reduceSub, Int.reduceMul, Int.reduceNeg, Int.reduceLT, Int.reduceLE, Int.reduceEq, Int.reduceToNat, reduceCtorEq, reduceIte, Nat.zero_add, Nat.add_zero, *]
    intros
    rw [← HR.out]
    exact ⟨rfl, i, HT.out⟩
theorem rinsert_con (t : Tb) (l rows : List Rw) (ht : TRg t) : Con Try.prog 28 [.ag (encT t), .tr (l.map encR), .tr (rows.map encR)] (.ret (.tp [.tr ((insertF t l rows).1.map encR), .sc (.int .i64 (insertF t l rows).2)])) := by
  refine con_of (by_rows_Insert ?_)
  generalize hR : RC _ = R
  have HR := Lib.hid hR; clear hR
  have HC := Lib.hid (change_con t l ht 73 [.fp [.tr (rows.map encR)]] (fun a => insF t.columns t.key.toNat a rows) (fun σ k => by simp only [brwL_cons, brwL_nil, brw_fp, List.append_nil]) (fun h => insert_do t (okr_kok (rowsF_zero.1 h)) rows))
  clear ht
  simp (maxSteps := 1000000) (disch := omega) only [sh_rows_Insert, go_sem, wrapI, wrapB, upd_is, upd_not, Nat.reduceAdd, Nat.reduceSub, Nat.reduceMul, Nat.reduceLeDiff, Nat.reduceEqDiff, Int.reduceAdd, Int.reduceSub, Int.reduceMul, Int.reduceNeg, Int.reduceLT, Int.reduceLE, Int.reduceEq, Int.reduceToNat, reduceCtorEq, reduceIte, Nat.zero_add, Nat.add_zero, *]
  refine CALL_con (I := [16]) HC.out ?_ ?_
  · simp (maxSteps := 1000000) (disch := omega) only [encT, go_sem, wrapI, wrapB, upd_is, upd_not, Nat.reduceAdd, Nat.reduceSub, Nat.reduceMul, Nat.reduceLeDiff, Nat.reduceEqDiff, Int.reduceAdd, Int.reduceSub, Int.reduceMul, Int.reduceNeg, Int.reduceLT, Int.reduceLE, Int.reduceEq, Int.reduceToNat, reduceCtorEq, reduceIte, Nat.zero_add, Nat.add_zero, *]
  · simp (maxSteps := 1000000) (disch := omega) only [go_sem, wrapI, wrapB, upd_is, upd_not, Nat.reduceAdd, Nat.reduceSub, Nat.reduceMul, Nat.reduceLeDiff, Nat.reduceEqDiff, Int.reduceAdd, Int.reduceSub, Int.reduceMul, Int.reduceNeg, Int.reduceLT, Int.reduceLE, Int.reduceEq, Int.reduceToNat, reduceCtorEq, reduceIte, Nat.zero_add, Nat.add_zero, *]
    rw [← HR.out]; exact RC_ret rfl rfl
theorem rdelete_con (t : Tb) (l : List Rw) (keys : List Vl) (ht : TRg t) : Con Try.prog 33 [.ag (encT t), .tr (l.map encR), .tr (keys.map encV)] (.ret (.tp [.tr ((deleteF t l keys).1.map encR), .sc (.int .i64 (deleteF t l keys).2)])) := by
  refine con_of (by_rows_Delete ?_)
  generalize hR : RC _ = R
  have HR := Lib.hid hR; clear hR
  have HC := Lib.hid (change_con t l ht 79 [.fp [.tr (keys.map encV)]] (fun a => remF t.key.toNat a keys) (fun σ k => by simp only [brwL_cons, brwL_nil, brw_fp, List.append_nil]) (fun h => delete_do t keys))
  clear ht
  simp (maxSteps := 1000000) (disch := omega) only [sh_rows_Delete, go_sem, wrapI, wrapB, upd_is, upd_not, Nat.reduceAdd, Nat.reduceSub, Nat.reduceMul, Nat.reduceLeDiff, Nat.reduceEqDiff, Int.reduceAdd, Int.reduceSub, Int.reduceMul, Int.reduceNeg, Int.reduceLT, Int.reduceLE, Int.reduceEq, Int.reduceToNat, reduceCtorEq, reduceIte, Nat.zero_add, Nat.add_zero, *]
  refine CALL_con (I := [16]) HC.out ?_ ?_
  · simp (maxSteps := 1000000) (disch := omega) only [encT, go_sem, wrapI, wrapB, upd_is, upd_not, Nat.reduceAdd, Nat.reduceSub, Nat.reduceMul, Nat.reduceLeDiff, Nat.reduceEqDiff, Int.reduceAdd, Int.reduceSub, Int.reduceMul, Int.reduceNeg, Int.reduceLT, Int.reduceLE, Int.reduceEq, Int.reduceToNat, reduceCtorEq, reduceIte, Nat.zero_add, Nat.add_zero, *]
  · simp (maxSteps := 1000000) (disch := omega) only [go_sem, wrapI, wrapB, upd_is, upd_not, Nat.reduceAdd, Nat.reduceSub, Nat.reduceMul, Nat.reduceLeDiff, Nat.reduceEqDiff, Int.reduceAdd, Int.reduceSub, Int.reduceMul, Int.reduceNeg, Int.reduceLT, Int.reduceLE, Int.reduceEq, Int.reduceToNat, reduceCtorEq, reduceIte, Nat.zero_add, Nat.add_zero, *]
    rw [← HR.out]; exact RC_ret rfl rfl
theorem rupdate_con (t : Tb) (l : List Rw) (keys : List Vl) (rows : List Rw) (ht : TRg t) : Con Try.prog 71 [.ag (encT t), .tr (l.map encR), .tr (keys.map encV), .tr (rows.map encR)] (.ret (.tp [.tr ((updateF t l keys rows).1.map encR), .sc (.int .i64 (updateF t l keys rows).2)])) := by
  refine con_of (by_rows_Update ?_)
  generalize hR : RC _ = R
  have HR := Lib.hid hR; clear hR
  have HC := Lib.hid (change_con t l ht 119 [.fp [.tr (keys.map encV)], .fp [.tr (rows.map encR)]] _ (fun σ k => by simp only [brwL_cons, brwL_nil, brw_fp, List.append_nil]) (fun h => update_do t (okr_kok (rowsF_zero.1 h)) keys rows))
  clear ht
  simp (maxSteps := 1000000) (disch := omega) only [sh_rows_Update, go_sem, wrapI, wrapB, upd_is, upd_not, Nat.reduceAdd, Nat.reduceSub, Nat.reduceMul, Nat.reduceLeDiff, Nat.reduceEqDiff, Int.reduceAdd, Int.reduceSub, Int.reduceMul, Int.reduceNeg, Int.reduceLT, Int.reduceLE, Int.reduceEq, Int.reduceToNat, reduceCtorEq, reduceIte, Nat.zero_add, Nat.add_zero, *]
  refine CALL_con (I := [16, 32]) HC.out ?_ ?_
  · simp (maxSteps := 1000000) (disch := omega) only [encT, go_sem, wrapI, wrapB, upd_is, upd_not, Nat.reduceAdd, Nat.reduceSub, Nat.reduceMul, Nat.reduceLeDiff, Nat.reduceEqDiff, Int.reduceAdd, Int.reduceSub, Int.reduceMul, Int.reduceNeg, Int.reduceLT, Int.reduceLE, Int.reduceEq, Int.reduceToNat, reduceCtorEq, reduceIte, Nat.zero_add, Nat.add_zero, *]
  · simp (maxSteps := 1000000) (disch := omega) only [go_sem, wrapI, wrapB, upd_is, upd_not, Nat.reduceAdd, Nat.reduceSub, Nat.reduceMul, Nat.reduceLeDiff, Nat.reduceEqDiff, Int.reduceAdd, Int.reduceSub, Int.reduceMul, Int.reduceNeg, Int.reduceLT, Int.reduceLE, Int.reduceEq, Int.reduceToNat, reduceCtorEq, reduceIte, Nat.zero_add, Nat.add_zero, *]
    rw [← HR.out]; exact RC_ret rfl rfl
end Go.Proofs.Ytlhnncmflnjinaa
