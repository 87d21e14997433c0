/- Packed by a program of this repo: Qi. -/
import Derived.Test.YtlhnncmflnjinaaKCQh
set_option linter.unusedSimpArgs false
set_option linter.unusedVariables false
set_option maxRecDepth 100000
namespace Go.Proofs.Ytlhnncmflnjinaa
open Go Go.RowKit Am
attribute [-go_sem] guardP_if guardK_if guardD_if COND_bool
attribute [local go_sem low] guardP_if guardK_if guardD_if COND_bool

theorem tplacec_con (t : Tb) (x : Tx) : Con Try.prog 111 ([.ag (encT t), .s x] ++ []) (.ret (.sc (.int .i64 (cmpS t.name x)))) := by
  refine con_of (by_catalog_place_c1 ?_)
  have HC := Lib.hid (cmpS_con t.name x)
  simp (maxSteps := 1000000) (disch := omega) only [sh_catalog_place_c1, encT, go_sem, wrapI, wrapB, upd_is, upd_not, Nat.reduceAdd, Nat.reduceSub, Nat.reduceMul, Nat.reduceLeDiff, Nat.reduceEqDiff, Int.reduceAdd, Int.reduceSub, Int.reduceMul, Int.reduceNeg, Int.reduceLT, Int.reduceLE, Int.reduceEq, Int.reduceToNat, reduceCtorEq, reduceIte, Nat.zero_add, Nat.add_zero, *]
  refine CALL_con0 HC.out rfl ?_
  simp (maxSteps := 1000000) (disch := omega) only [go_sem, wrapI, wrapB, upd_is, upd_not, Nat.reduceAdd, Nat.reduceSub, Nat.reduceMul, Nat.reduceLeDiff, Nat.reduceEqDiff, Int.reduceAdd, Int.reduceSub, Int.reduceMul, Int.reduceNeg, Int.reduceLT, Int.reduceLE, Int.reduceEq, Int.reduceToNat, reduceCtorEq, reduceIte, Nat.zero_add, Nat.add_zero, *]
  exact RC_ret rfl rfl
def tpl_ (ts : List Tb) (x : Tx) : Nat := bsL (fun i => decide (cmpS (ts.getD i tb0).name x < 0)) ts.length 0 ts.length
def tis_ (ts : List Tb) (x : Tx) : Bool := decide (tpl_ ts x < ts.length) && decide (cmpS (ts.getD (tpl_ ts x) tb0).name x = 0)
theorem tplace_con (ts : List Tb) (x : Tx) : Con Try.prog 65 [.ag [.tr (ts.map encT)], .s x] (.ret (.tp [.sc (.int .i64 (tpl_ ts x : Nat)), .sc (.bool (tis_ ts x))])) := by
  refine con_of (by_catalog_place ?_)
  generalize hR : RC _ = R
  have HR := Lib.hid hR; clear hR
  have HB := Lib.hid (bsT_con 111 [] (fun t => cmpS t.name x) ts x (fun σ => rfl) (fun t _ => tplacec_con t x))
  simp (maxSteps := 1000000) (disch := omega) only [sh_catalog_place, go_sem, wrapI, wrapB, upd_is, upd_not, Nat.reduceAdd, Nat.reduceSub, Nat.reduceMul, Nat.reduceLeDiff, Nat.reduceEqDiff, Int.reduceAdd, Int.reduceSub, Int.reduceMul, Int.reduceNeg, Int.reduceLT, Int.reduceLE, Int.reduceEq, Int.reduceToNat, reduceCtorEq, reduceIte, Nat.zero_add, Nat.add_zero, *]
  refine CALL_con0 HB.out rfl ?_
  simp (maxSteps := 1000000) (disch := omega) only [go_sem, wrapI, wrapB, upd_is, upd_not, Nat.reduceAdd, Nat.reduceSub, Nat.reduceMul, Nat.reduceLeDiff, Nat.reduceEqDiff, Int.reduceAdd, Int.reduceSub, Int.reduceMul, Int.reduceNeg, Int.reduceLT, Int.reduceLE, Int.reduceEq, Int.reduceToNat, reduceCtorEq, reduceIte, Nat.zero_add, Nat.add_zero, *]
  rw [← HR.out]
  exact RC_ret rfl rfl
def findF (ts : List Tb) (x : Tx) : Int × Int := if catCheckF ts ≠ 0 then (0, catCheckF ts) else if tis_ ts x = false then (0, 93) else ((tpl_ ts x : Nat), 0)
theorem find_con (ts : List Tb) (hb : CBd ts) (x : Tx) : Con Try.prog 45 [.ag [.tr (ts.map encT)], .s x] (.ret (.tp [.sc (.int .i64 (findF ts x).1), .sc (.int .i64 (findF ts x).2)])) := by
  refine con_of (by_catalog_Find ?_)
  generalize hR : RC _ = R
  have HR := Lib.hid hR; clear hR
  have HC := Lib.hid (catCheck_con ts hb)
  have HP := Lib.hid (tplace_con ts x)
  clear hb
  simp (maxSteps := 1000000) (disch := omega) only [sh_catalog_Find, go_sem, wrapI, wrapB, upd_is, upd_not, Nat.reduceAdd, Nat.reduceSub, Nat.reduceMul, Nat.reduceLeDiff, Nat.reduceEqDiff, Int.reduceAdd, Int.reduceSub, Int.reduceMul, Int.reduceNeg, Int.reduceLT, Int.reduceLE, Int.reduceEq, Int.reduceToNat, reduceCtorEq, reduceIte, Nat.zero_add, Nat.add_zero, *]
  refine CALL_con0 HC.out rfl ?_
  by_cases h1 : catCheckF ts = 0
  · simp (maxSteps := 1000000) (disch := omega) only [decide_true, go_sem, wrapI, wrapB, upd_is, upd_not, Nat.reduceAdd, Nat.reduceSub, Nat.reduceMul, Nat.reduceLeDiff, Nat.reduceEqDiff, Int.reduceAdd, Int.reduceSub, Int.reduceMul, Int.reduceNeg, Int.reduceLT, Int.reduceLE, Int.reduceEq, Int.reduceToNat, reduceCtorEq, reduceIte, Nat.zero_add, Nat.add_zero, *]
    refine CALL_con0 HP.out rfl ?_
    cases h2 : tis_ ts x with
    | true =>
      simp (maxSteps := 1000000) (disch := omega) only [go_sem, wrapI, wrapB, upd_is, upd_not, Nat.reduceAdd, Nat.reduceSub, Nat.reduceMul, Nat.reduceLeDiff, Nat.reduceEqDiff, Int.reduceAdd, Int.reduceSub, Int.reduceMul, Int.reduceNeg, Int.reduceLT, Int.reduceLE, Int.reduceEq, Int.reduceToNat, reduceCtorEq, reduceIte, Nat.zero_add, Nat.add_zero, *]
      rw [← HR.out]; exact RC_ret rfl (by rw [findF, if_neg (by simp [h1]), if_neg (by simp [h2])])
    | false =>
      simp (maxSteps := 1000000) (disch := omega) only [go_sem, wrapI, wrapB, upd_is, upd_not, Nat.reduceAdd, Nat.reduceSub, Nat.reduceMul, Nat.reduceLeDiff, Nat.reduceEqDiff, Int.reduceAdd, Int.reduceSub, Int.reduceMul, Int.reduceNeg, Int.reduceLT, Int.reduceLE, Int.reduceEq, Int.reduceToNat, reduceCtorEq, reduceIte, Nat.zero_add, Nat.add_zero, *]
      rw [← HR.out]; exact RC_ret rfl (by rw [findF, if_neg (by simp [h1]), if_pos h2])
  · simp (maxSteps := 1000000) (disch := omega) only [decide_true, go_sem, wrapI, wrapB, upd_is, upd_not, Nat.reduceAdd, Nat.reduceSub, Nat.reduceMul, Nat.reduceLeDiff, Nat.reduceEqDiff, Int.reduceAdd, Int.reduceSub, Int.reduceMul, Int.reduceNeg, Int.reduceLT, Int.reduceLE, Int.reduceEq, Int.reduceToNat, reduceCtorEq, reduceIte, Nat.zero_add, Nat.add_zero, *]
    rw [← HR.out]; exact RC_ret rfl (by rw [findF, if_pos h1])
set_option maxHeartbeats 4000000 in
theorem cloneTable_con (t : Tb) (hb : TBd t) : Con Try.prog 116 [.ag (encT t)] (.ret (.ag (encT t))) := by
  refine con_of (by_catalog_CloneTable ?_)
  generalize hR : RC _ = R
  have HR := Lib.hid hR; clear hR
  obtain ⟨name, columns, key, indexes⟩ := t
  have h1 : columns.length ≤ 1048576 := hb.col
  have h2 : indexes.length ≤ 1048576 := hb.ind
  clear hb
  have HC := fun id => Lib.hid (clC_con columns h1 id)
  have HX := fun id => Lib.hid (clX_con indexes h2 id)
  simp (maxSteps := 1000000) (disch := omega) only [sh_catalog_CloneTable, encT, go_sem, wrapI, wrapB, upd_is, upd_not, Nat.reduceAdd, Nat.reduceSub, Nat.reduceMul, Nat.reduceLeDiff, Nat.reduceEqDiff, Int.reduceAdd, Int.reduceSub, Int.reduceMul, Int.reduceNeg, Int.reduceLT, Int.reduceLE, Int.reduceEq, Int.reduceToNat, reduceCtorEq, reduceIte, Nat.zero_add, Nat.add_zero, *]
  refine callD_conW (HC _).out (by simp) ?_
  simp (maxSteps := 1000000) (disch := omega) only [go_sem, wrapI, wrapB, upd_is, upd_not, Nat.reduceAdd, Nat.reduceSub, Nat.reduceMul, Nat.reduceLeDiff, Nat.reduceEqDiff, Int.reduceAdd, Int.reduceSub, Int.reduceMul, Int.reduceNeg, Int.reduceLT, Int.reduceLE, Int.reduceEq, Int.reduceToNat, reduceCtorEq, reduceIte, Nat.zero_add, Nat.add_zero, *]
  refine callD_conW (HX _).out (by simp) ?_
  simp (maxSteps := 1000000) (disch := omega) only [go_sem, wrapI, wrapB, upd_is, upd_not, Nat.reduceAdd, Nat.reduceSub, Nat.reduceMul, Nat.reduceLeDiff, Nat.reduceEqDiff, Int.reduceAdd, Int.reduceSub, Int.reduceMul, Int.reduceNeg, Int.reduceLT, Int.reduceLE, Int.reduceEq, Int.reduceToNat, reduceCtorEq, reduceIte, Nat.zero_add, Nat.add_zero, *]
  refine ⟨by omega, fun n_ hn_ => ?_⟩
  rw [← HR.out]
  refine RC_ret (c := .ag (encT ⟨name, columns, key, indexes⟩)) (I := [] ++ ([64] ++ ([] ++ ([112] ++ [])))) ?_ rfl
  simp only [brw_ag, brwL_cons, brwL_nil, brw_s, brw_sc, Option.map_some, encT]
  rw [brw_all (rows := columns.map encC) (w := true) (by simp (disch := omega) only [upd_not, upd_is]) (List.length_map _) (by omega)]
  rw [brw_all (rows := indexes.map encX) (w := true) (by simp (disch := omega) only [upd_not, upd_is]) (List.length_map _) (by omega)]
  rfl
theorem wn_newS {id j k off len : Nat} {x : Ob} {σ σ' : Hp} (hx : σ' j = some x) (hj : ∀ q, q < 16 → j ≠ id + q) (hj0 : σ j = none) (hk : ∀ i y, σ i = some y → σ' i = some y) :
    Wn id (.ret (.ag [.ow j k off len])) σ' [] [] (.ret (.ag [.ow id k off len])) (applyW σ [(id, some x)]) := by
  refine .move _ _ _ _ j 0 x _ _ hx (by omega) (by simp) hj (.ret _ (.ag [.ow (id + 0) k off len]) _ _ _ _ _ (.ag _ _ rfl (fun q a b ha hb => ?_)) (.less _ _ _ _ (applyW σ [(id, some x)]) _ _ (fun i y hy => ?_) (.done _ _ _ _)))
  · cases q with
    | zero =>
      simp only [List.getElem?_cons_zero, Option.some.injEq] at ha hb
      subst ha hb
      exact .ow j (id + 0) k off len (by simp)
    | succ q => simp at ha
  · simp only [applyW, upd, Nat.add_zero] at hy ⊢
    by_cases e : i = id
    · rw [if_pos e] at hy ⊢; exact ⟨y, hy, .refl y⟩
    · rw [if_neg e] at hy ⊢
      by_cases e2 : i = j
      · subst e2; rw [hj0] at hy; cases hy
      · rw [if_neg e2]; exact ⟨y, hk i y hy, .refl y⟩
set_option maxHeartbeats 4000000 in
theorem catClone_con (ts : List Tb) (hl : ts.length ≤ 1048576) (hb : ∀ t ∈ ts, TBd t) (id : Nat) : ConW Try.prog 67 [.ag [.tr (ts.map encT)]] [] id (.ret (.ag [.ow id 4 0 ts.length])) [(id, some (.c ⟨4, ts.map encT, true, true⟩))] := by
  refine conW_of (by kernel_rfl) (fun σ n _ hid => ConH.fresh (by kernel_rfl) fun hf => by_catalog_Clone ?_)
  generalize hR : (fun (r' : AEnd) (σ' : Hp) (_ : Nat) => _) = R
  have HR := Lib.hid hR; clear hR
  have hfr : ∀ j, n ≤ j → ∀ q, q < 16 → j ≠ id + q := fun j hj q hq => by omega
  have HFR := Lib.hid hfr; clear hfr
  have HF := Lib.hid hf; clear hf
  have HC := Lib.hid hb; clear hb
  simp (maxSteps := 1000000) (disch := omega) only [sh_catalog_Clone, go_sem, wrapI, wrapB, upd_is, upd_not, Nat.reduceAdd, Nat.reduceSub, Nat.reduceMul, Nat.reduceLeDiff, Nat.reduceEqDiff, Int.reduceAdd, Int.reduceSub, Int.reduceMul, Int.reduceNeg, Int.reduceLT, Int.reduceLE, Int.reduceEq, Int.reduceToNat, reduceCtorEq, reduceIte, Nat.zero_add, Nat.add_zero, *]
  refine CALL_conW (clT_con ts hl (n + 16 + 16)) (by simp) ?_
  intro n1 hn1
  simp (maxSteps := 1000000) (disch := omega) only [go_sem, wrapI, wrapB, upd_is, upd_not, Nat.reduceAdd, Nat.reduceSub, Nat.reduceMul, Nat.reduceLeDiff, Nat.reduceEqDiff, Int.reduceAdd, Int.reduceSub, Int.reduceMul, Int.reduceNeg, Int.reduceLT, Int.reduceLE, Int.reduceEq, Int.reduceToNat, reduceCtorEq, reduceIte, Nat.zero_add, Nat.add_zero, *]
  intros
  refine LOOP_listM ts (fun i s σ' n' => (∃ a b c, s = [a, b, c, .sc (.int .i64 i)]) ∧ n + 48 ≤ n' ∧ σ' (n + 16 + 16) = some (.c ⟨4, ts.map encT, true, true⟩) ∧ σ' n = some (.c ⟨1, [[.ow (n + 16 + 16) 4 0 ts.length]], true, false⟩) ∧ (∃ v, σ' (n + 16) = some (.c ⟨1, [[v]], true, false⟩)) ∧ (∀ q z, σ q = some z → σ' q = some z)) (.refl ⟨⟨_, _, _, rfl⟩, ?_, ?_, ?_, ⟨.em, ?_⟩, fun q z hz => ?_⟩) ?_ ?_
  · omega
  · simp (disch := omega) only [upd_not, upd_is]
  · simp (disch := omega) only [upd_not, upd_is]
  · rw [upd_not (by omega), upd_not (by omega), upd_is rfl]
  · have h1 : q ≠ n := fun e => by rw [e, HF.out n (by omega)] at hz; cases hz
    have h2 : q ≠ n + 16 := fun e => by rw [e, HF.out (n + 16) (by omega)] at hz; cases hz
    have h3 : q ≠ n + 16 + 16 := fun e => by rw [e, HF.out (n + 16 + 16) (by omega)] at hz; cases hz
    simp only [upd_not h1, upd_not h2, upd_not h3]; exact hz
  · rintro i t K s' σ' n2 hx hi hi' hn2 ⟨⟨a, b, c, rfl⟩, hn3, hb, h0, ⟨v, h1⟩, hk⟩ hK
    have HK := Lib.hid hK; clear hK
    have HP := Lib.hid hk; clear hk
    have HN := Lib.hid (cloneTable_con t (HC.out t (List.mem_of_getElem? hx)))
    have hset : (ts.map encT).set i (encT t) = ts.map encT := set_same hx
    simp (maxSteps := 1000000) (disch := omega) only [lb_catalog_Clone2, go_sem, wrapI, wrapB, upd_is, upd_not, Nat.reduceAdd, Nat.reduceSub, Nat.reduceMul, Nat.reduceLeDiff, Nat.reduceEqDiff, Int.reduceAdd, Int.reduceSub, Int.reduceMul, Int.reduceNeg, Int.reduceLT, Int.reduceLE, Int.reduceEq, Int.reduceToNat, reduceCtorEq, reduceIte, Nat.zero_add, Nat.add_zero, *]
    refine callD_con0 HN.out (by simp only [List.append_nil, brwL_cons, brwL_nil, brw_ag, encT_brw, Option.map_some]) ?_
    simp (maxSteps := 1000000) (disch := omega) only [go_sem, wrapI, wrapB, upd_is, upd_not, Nat.reduceAdd, Nat.reduceSub, Nat.reduceMul, Nat.reduceLeDiff, Nat.reduceEqDiff, Int.reduceAdd, Int.reduceSub, Int.reduceMul, Int.reduceNeg, Int.reduceLT, Int.reduceLE, Int.reduceEq, Int.reduceToNat, reduceCtorEq, reduceIte, Nat.zero_add, Nat.add_zero, *]
    refine fun n_ hn_ => HK.out _ _ _ (.refl ⟨⟨_, _, _, rfl⟩, ?_, ?_, ?_, ⟨v, ?_⟩, fun q z hz => ?_⟩)
    · omega
    · rw [upd_is rfl]
    · simp (disch := omega) only [upd_not]; exact h0
    · simp (disch := omega) only [upd_not]; exact h1
    · have e1 : q ≠ n2 := fun e => by rw [e, HF.out n2 (by omega)] at hz; cases hz
      have e3 : q ≠ n + 16 + 16 := fun e => by rw [e, HF.out (n + 16 + 16) (by omega)] at hz; cases hz
      simp only [upd_not e1, upd_not e3]; exact HP.out q z hz
  · rintro K s' σ' n2 hn2 ⟨⟨a, b, c, rfl⟩, hn3, hb, h0, ⟨v, h1⟩, hk⟩
    have HP := Lib.hid hk; clear hk
    simp (maxSteps := 1000000) (disch := omega) only [lb_catalog_Clone2, Int.lt_irrefl, go_sem, wrapI, wrapB, upd_is, upd_not, Nat.reduceAdd, Nat.reduceSub, Nat.reduceMul, Nat.reduceLeDiff, Nat.reduceEqDiff, Int.reduceAdd, Int.reduceSub, Int.reduceMul, Int.reduceNeg, Int.reduceLT, Int.reduceLE, Int.reduceEq, Int.reduceToNat, reduceCtorEq, reduceIte, Nat.zero_add, Nat.add_zero, *]
    rw [← HR.out]
    refine wn_newS (j := n + 16 + 16) ?_ (HFR.out _ (by omega)) (HF.out _ (by omega)) (fun q z hz => ?_)
    · rw [upd_not (by omega)]; exact hb
    · have h2 : q ≠ n + 16 := fun e => by rw [e, HF.out (n + 16) (by omega)] at hz; cases hz
      rw [upd_not h2]; exact HP.out q z hz
end Go.Proofs.Ytlhnncmflnjinaa
