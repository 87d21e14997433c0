/- Packed by a program of this repo: Qp. -/
import Derived.Test.YtlhnncmflnjinaaKBQl
import Derived.Test.YtlhnncmflnjinaaKBPf
set_option linter.unusedSimpArgs false
set_option linter.unusedVariables false
set_option maxRecDepth 100000
namespace Go.Proofs.Ytlhnncmflnjinaa
open Go Go.RowKit Am
attribute [-go_sem] guardP_if guardK_if guardD_if COND_bool
attribute [local go_sem low] guardP_if guardK_if guardD_if COND_bool

theorem frz_at (σ : Hp) : ∀ (I : List Nat) (τ : Hp) (j : Nat), j ∈ I → applyW τ (frz σ I) j = (σ j).map Ob.frz
  | i :: I, τ, j, h => by
    rw [frz, applyW]
    by_cases hI : j ∈ I
    · exact frz_at σ I _ j hI
    · rw [frz_keep σ I _ j hI]
      rcases List.mem_cons.1 h with rfl | h
      · rw [upd_is rfl]
      · exact absurd h hI
theorem wr_blk {r : AEnd} {σ : Hp} {I : List Nat} {j k : Nat} {rows : List (List AV)} {w cl : Bool} (h : σ j = some (.c ⟨k, rows, w, cl⟩)) : ∃ w', applyW σ (wrOf r σ I) j = some (.c ⟨k, rows, w', cl⟩) := by
  by_cases hj : j ∈ I
  · unfold wrOf
    cases r with
    | ret v =>
      simp only
      split
      · exact ⟨w, h⟩
      · exact ⟨false, by rw [frz_at σ I σ j hj, h]; rfl⟩
    | pan x => exact ⟨w, h⟩
  · exact ⟨w, by rw [wr_keep hj]; exact h⟩
/-- a closed call: what its blocks held they hold -/
theorem CALL_conB {P : Program} {g : FuncId} {caps args cs : List AV} {I : List Nat} {r : AEnd} {σ : Hp} {n : Nat} {K : AEnd → Hp → Nat → Prop} (h : Con P g cs r) (hb : brwL σ 6 (args ++ caps) = some (cs, I))
    (hk : ∀ σ', (∀ j, j ∉ I → σ' j = σ j) → (∀ j k rows w cl, σ j = some (.c ⟨k, rows, w, cl⟩) → ∃ w', σ' j = some (.c ⟨k, rows, w', cl⟩)) → K r σ' n) : CALL P (.fn g caps) args σ n K :=
  CALL_con h hb (hk _ (fun _ hj => wr_keep hj) (fun _ _ _ _ _ h => wr_blk h))
abbrev bxR (l : Rw) : Ob := .c ⟨1, [[.tr (l.map encV)]], true, false⟩
theorem next_con (v : Vl) (l : Rw) (i id : Nat) : ConW Try.prog 91 [.rf i 1 0 0] [(i, bxR (v :: l))] id (.ret (.ag (encV v))) [(i, some (bxR l))] := by
  refine conW_less' (by kernel_rfl) (fun σ n R hp hf hR => by_pcatalog_values_next ?_)
  have hi := hp _ (List.mem_singleton.2 rfl)
  simp only [bxR] at hi
  clear hp
  have hin : i < n := Nat.lt_of_not_le (fun h => by rw [hf i h] at hi; cases hi)
  have hne : n ≠ i := by omega
  have hne2 : n + 16 ≠ i := by omega
  have HR := Lib.hid hR; clear hR
  have HF := Lib.hid hf; clear hf
  have hq0 : (((l.length + 1 : Nat) : Int) = 0) = False := eq_false (by omega)
  have hq1 : (1 ≤ ((l.length + 1 : Nat) : Int)) = True := eq_true (by omega)
  simp (maxSteps := 1000000) (disch := omega) only [sh_pcatalog_values_next, hq0, hq1, takeV, go_sem, wrapI, wrapB, upd_is, upd_not, Nat.reduceAdd, Nat.reduceSub, Nat.reduceMul, Nat.reduceLeDiff, Nat.reduceEqDiff, Int.reduceAdd, Int.reduceSub, Int.reduceMul, Int.reduceNeg, Int.reduceLT, Int.reduceLE, Int.reduceEq, Int.reduceToNat, reduceCtorEq, reduceIte, Nat.zero_add, Nat.add_zero, *]
  intro _
  refine HR.out _ _ _ rfl (fun j x h => ?_)
  simp only [applyW] at h
  by_cases e : j = i
  · subst e
    rw [upd_is rfl] at h
    rw [upd_not (by omega), upd_is rfl]; exact h
  · rw [upd_not e] at h
    have e1 : j ≠ n := fun e => by rw [e, HF.out n (by omega)] at h; cases h
    have e2 : j ≠ n + 16 := fun e => by rw [e, HF.out (n + 16) (by omega)] at h; cases h
    simp only [upd_not e, upd_not e1, upd_not e2]; exact h
theorem equal_con (r : Rw) : Con Try.prog 92 [.tr (r.map encV), .tr (r.map encV)] (.ret (.sc (.bool true))) := by
  refine con_of (by_slices_Equal_lapi_Value_api_Value ?_)
  generalize hR : RC _ = R
  have HR := Lib.hid hR; clear hR
  simp (maxSteps := 1000000) (disch := omega) only [sh_slices_Equal_lapi_Value_api_Value, decide_true, decide_false, go_sem, wrapI, wrapB, upd_is, upd_not, Nat.reduceAdd, Nat.reduceSub, Nat.reduceMul, Nat.reduceLeDiff, Nat.reduceEqDiff, Int.reduceAdd, Int.reduceSub, Int.reduceMul, Int.reduceNeg, Int.reduceLT, Int.reduceLE, Int.reduceEq, Int.reduceToNat, reduceCtorEq, reduceIte, Nat.zero_add, Nat.add_zero, *]
  intros
  refine LOOP_list r (fun i s => ∃ a b c d, s = [a, b, c, d, .sc (.int .i64 i)]) ⟨_, _, _, _, rfl⟩ ?_ ?_
  · rintro i x K s' n' hx hi hi' hn ⟨a, b, c, d, rfl⟩ hK
    have HK := Lib.hid hK; clear hK
    simp (maxSteps := 1000000) (disch := omega) only [lb_slices_Equal_lapi_Value_api_Value1, aEqs_V, go_sem, wrapI, wrapB, upd_is, upd_not, Nat.reduceAdd, Nat.reduceSub, Nat.reduceMul, Nat.reduceLeDiff, Nat.reduceEqDiff, Int.reduceAdd, Int.reduceSub, Int.reduceMul, Int.reduceNeg, Int.reduceLT, Int.reduceLE, Int.reduceEq, Int.reduceToNat, reduceCtorEq, reduceIte, Nat.zero_add, Nat.add_zero, *]
    intros
    exact HK.out _ _ (by omega) ⟨_, _, _, _, rfl⟩
  · rintro K s' n' hn ⟨a, b, c, d, rfl⟩
    simp (maxSteps := 1000000) (disch := omega) only [lb_slices_Equal_lapi_Value_api_Value1, Int.lt_irrefl, go_sem, wrapI, wrapB, upd_is, upd_not, Nat.reduceAdd, Nat.reduceSub, Nat.reduceMul, Nat.reduceLeDiff, Nat.reduceEqDiff, Int.reduceAdd, Int.reduceSub, Int.reduceMul, Int.reduceNeg, Int.reduceLT, Int.reduceLE, Int.reduceEq, Int.reduceToNat, reduceCtorEq, reduceIte, Nat.zero_add, Nat.add_zero, *]
    intros
    rw [← HR.out]; exact RC_ret rfl rfl
def restA (t : Tb) (i : Nat) : Rw := (t.columns.drop i).flatMap colV ++ (numV t.indexes.length :: t.indexes.flatMap ixV)
def restB (t : Tb) (i : Nat) : Rw := (t.indexes.drop i).flatMap ixV
theorem enc_rest (t : Tb) : encodeL t = textV t.name :: numV t.key :: numV t.columns.length :: restA t 0 := by
  simp [encodeL, restA]
theorem restA_next {t : Tb} {i : Nat} {c : Cl} (h : t.columns[i]? = some c) : restA t i = textV c.name :: numV c.kind :: boolV c.notNull :: restA t (i + 1) := by
  rw [restA, drop_at h, List.flatMap_cons]; rfl
theorem restA_end (t : Tb) : restA t t.columns.length = numV t.indexes.length :: restB t 0 := by
  rw [restA, List.drop_length]; rfl
theorem restB_next {t : Tb} {i : Nat} {c : Ix} (h : t.indexes[i]? = some c) : restB t i = textV c.name :: numV c.at_ :: restB t (i + 1) := by
  rw [restB, drop_at h, List.flatMap_cons]; rfl
theorem may_lens {t : Tb} (h : mayF t = true) : 1 ≤ t.columns.length ∧ t.columns.length ≤ 8 ∧ t.indexes.length ≤ 4 := by
  unfold mayF at h
  split at h
  · cases h
  · rename_i h1; simp only [not_or] at h1; omega
theorem encV_text (x : Tx) : encV (textV x) = [.sc (.int .i64 3), .sc (.int .i64 0), .s x] := rfl
theorem encV_num (x : Int) : encV (numV x) = [.sc (.int .i64 1), .sc (.int .i64 x), .s []] := rfl
theorem encV_bool (b : Bool) : encV (boolV b) = [.sc (.int .i64 2), .sc (.int .i64 (if b then 1 else 0)), .s []] := rfl
set_option maxHeartbeats 2000000 in
theorem decode_con (t : Tb) (ht : TRg t) (hm : mayF t = true) : Con Try.prog 43 [.tr ((encodeL t).map encV)] (.ret (.tp [.ag (encT t), .sc (.int .i64 0)])) := by
  refine con_of (by_catalog_Decode ?_)
  generalize hR : RC _ = R
  have HR := Lib.hid hR; clear hR
  have HE := Lib.hid (encode_con t ht)
  rw [if_pos hm] at HE
  have HQ := Lib.hid (equal_con (encodeL t))
  have HN := Lib.hid next_con
  obtain ⟨h1, h8, h4⟩ := may_lens hm
  clear ht hm
  obtain ⟨A, hA⟩ : ∃ A, A = (encodeL t).map encV := ⟨_, rfl⟩
  rw [← hA] at HE HQ
  rw [← hA]
  rw [enc_rest] at hA
  have HA := Lib.hid hA; clear hA
  simp (maxSteps := 1000000) (disch := omega) only [sh_catalog_Decode, go_sem, wrapI, wrapB, upd_is, upd_not, Nat.reduceAdd, Nat.reduceSub, Nat.reduceMul, Nat.reduceLeDiff, Nat.reduceEqDiff, Int.reduceAdd, Int.reduceSub, Int.reduceMul, Int.reduceNeg, Int.reduceLT, Int.reduceLE, Int.reduceEq, Int.reduceToNat, reduceCtorEq, reduceIte, Nat.zero_add, Nat.add_zero, *]
  refine CALL_conW (HN.out (textV t.name) (numV t.key :: numV t.columns.length :: restA t 0) 16 _) ?_ ?_
  · intro p hp
    simp only [List.mem_singleton] at hp
    subst hp
    simp (disch := omega) only [upd_not, upd_is]
    rw [HA.out]
  intro n1 hn1
  simp (maxSteps := 1000000) (disch := omega) only [encV_text, encV_num, encV_bool, go_sem, wrapI, wrapB, upd_is, upd_not, Nat.reduceAdd, Nat.reduceSub, Nat.reduceMul, Nat.reduceLeDiff, Nat.reduceEqDiff, Int.reduceAdd, Int.reduceSub, Int.reduceMul, Int.reduceNeg, Int.reduceLT, Int.reduceLE, Int.reduceEq, Int.reduceToNat, reduceCtorEq, reduceIte, Nat.zero_add, Nat.add_zero, *]
  refine CALL_conW (HN.out (numV t.key) (numV t.columns.length :: restA t 0) 16 _) ?_ ?_
  · intro p hp
    simp only [List.mem_singleton] at hp
    subst hp
    simp (disch := omega) only [upd_not, upd_is]
  intro n2 hn2
  simp (maxSteps := 1000000) (disch := omega) only [encV_text, encV_num, encV_bool, go_sem, wrapI, wrapB, upd_is, upd_not, Nat.reduceAdd, Nat.reduceSub, Nat.reduceMul, Nat.reduceLeDiff, Nat.reduceEqDiff, Int.reduceAdd, Int.reduceSub, Int.reduceMul, Int.reduceNeg, Int.reduceLT, Int.reduceLE, Int.reduceEq, Int.reduceToNat, reduceCtorEq, reduceIte, Nat.zero_add, Nat.add_zero, *]
  refine CALL_conW (HN.out (numV t.columns.length) (restA t 0) 16 _) ?_ ?_
  · intro p hp
    simp only [List.mem_singleton] at hp
    subst hp
    simp (disch := omega) only [upd_not, upd_is]
  intro n3 hn3
  simp (maxSteps := 1000000) (disch := omega) only [encV_text, encV_num, encV_bool, go_sem, wrapI, wrapB, upd_is, upd_not, Nat.reduceAdd, Nat.reduceSub, Nat.reduceMul, Nat.reduceLeDiff, Nat.reduceEqDiff, Int.reduceAdd, Int.reduceSub, Int.reduceMul, Int.reduceNeg, Int.reduceLT, Int.reduceLE, Int.reduceEq, Int.reduceToNat, reduceCtorEq, reduceIte, Nat.zero_add, Nat.add_zero, *]
  have z1 : ((t.columns.length : Int) < 0) = False := eq_false (by omega)
  have z2 : (8 < (t.columns.length : Int)) = False := eq_false (by omega)
  simp only [z1, z2, if_false]
  clear z1 z2
  refine LOOP_listM t.columns (fun i s σ' n' => (∃ a, s = [a, .sc (.int .i64 i)]) ∧ n2 + 16 ≤ n' ∧ σ' 0 = some (.c ⟨4, [[.s [], .em, .sc (.int .i64 0), .em]], true, false⟩) ∧ σ' 16 = some (bxR (restA t i)) ∧
      ∃ cv, σ' n2 = some (.c ⟨4, [[.s t.name, cv, .sc (.int .i64 t.key), .em]], true, false⟩) ∧ ((i = 0 ∧ cv = .em) ∨ ∃ i1, i1 < n' ∧ n2 < i1 ∧ cv = .ow i1 3 0 i ∧ σ' i1 = some (.c ⟨3, (t.columns.take i).map encC, true, true⟩)))
    (.refl ⟨⟨_, rfl⟩, by omega, ?_, ?_, .em, ?_, .inl ⟨rfl, rfl⟩⟩) ?_ ?_
  · simp (disch := omega) only [upd_not, upd_is]
  · simp (disch := omega) only [upd_not, upd_is]
  · simp (disch := omega) only [upd_not, upd_is]
  · clear hn3
    rintro i c K s' σ n hx hi hi' hn ⟨⟨a, rfl⟩, hn4, h0, h16, cv, hbx, hcv⟩ hK
    have HK := Lib.hid hK; clear hK
    rw [restA_next hx] at h16
    have ht : (t.columns.take (i + 1)).map encC = (t.columns.take i).map encC ++ [encC c] := by rw [List.take_add_one, hx, List.map_append]; rfl
    have HT := Lib.hid ht; clear ht
    have hb : semBin .eql (.sc (.int .i64 (if c.notNull = true then 1 else 0))) (.sc (.int .i64 1)) = some (.sc (.bool c.notNull)) := by cases c.notNull <;> rfl
    have g1 : ¬ n2 = 16 := by omega
    have g2 : ¬ n = 16 := by omega
    rcases hcv with ⟨rfl, rfl⟩ | ⟨i1, hl1, hg1, rfl, hs1⟩
    · simp (maxSteps := 1000000) (disch := omega) only [lb_catalog_Decode10, go_sem, wrapI, wrapB, upd_is, upd_not, Nat.reduceAdd, Nat.reduceSub, Nat.reduceMul, Nat.reduceLeDiff, Nat.reduceEqDiff, Int.reduceAdd, Int.reduceSub, Int.reduceMul, Int.reduceNeg, Int.reduceLT, Int.reduceLE, Int.reduceEq, Int.reduceToNat, reduceCtorEq, reduceIte, Nat.zero_add, Nat.add_zero, *]
      refine callD_conW (HN.out (textV c.name) (numV c.kind :: boolV c.notNull :: restA t (0 + 1)) 16 _) ?_ ?_
      · intro p hp
        simp only [List.mem_singleton] at hp
        subst hp
        simp (disch := omega) only [upd_not, upd_is]; exact h16
      simp (maxSteps := 1000000) (disch := omega) only [encV_text, encV_num, encV_bool, go_sem, wrapI, wrapB, upd_is, upd_not, Nat.reduceAdd, Nat.reduceSub, Nat.reduceMul, Nat.reduceLeDiff, Nat.reduceEqDiff, Int.reduceAdd, Int.reduceSub, Int.reduceMul, Int.reduceNeg, Int.reduceLT, Int.reduceLE, Int.reduceEq, Int.reduceToNat, reduceCtorEq, reduceIte, Nat.zero_add, Nat.add_zero, *]
      refine callD_conW (HN.out (numV c.kind) (boolV c.notNull :: restA t (0 + 1)) 16 _) ?_ ?_
      · intro p hp
        simp only [List.mem_singleton] at hp
        subst hp
        simp (disch := omega) only [upd_not, upd_is]
      simp (maxSteps := 1000000) (disch := omega) only [encV_text, encV_num, encV_bool, go_sem, wrapI, wrapB, upd_is, upd_not, Nat.reduceAdd, Nat.reduceSub, Nat.reduceMul, Nat.reduceLeDiff, Nat.reduceEqDiff, Int.reduceAdd, Int.reduceSub, Int.reduceMul, Int.reduceNeg, Int.reduceLT, Int.reduceLE, Int.reduceEq, Int.reduceToNat, reduceCtorEq, reduceIte, Nat.zero_add, Nat.add_zero, *]
      refine callD_conW (HN.out (boolV c.notNull) (restA t (0 + 1)) 16 _) ?_ ?_
      · intro p hp
        simp only [List.mem_singleton] at hp
        subst hp
        simp (disch := omega) only [upd_not, upd_is]
      simp (maxSteps := 1000000) (disch := omega) only [encV_text, encV_num, encV_bool, hb, go_sem, wrapI, wrapB, upd_is, upd_not, Nat.reduceAdd, Nat.reduceSub, Nat.reduceMul, Nat.reduceLeDiff, Nat.reduceEqDiff, Int.reduceAdd, Int.reduceSub, Int.reduceMul, Int.reduceNeg, Int.reduceLT, Int.reduceLE, Int.reduceEq, Int.reduceToNat, reduceCtorEq, reduceIte, Nat.zero_add, Nat.add_zero, *]
      refine ⟨fun q hq => by omega, fun q hq => by omega, fun q hq => by omega, fun q hq => by omega, fun n_ hn_ => HK.out _ _ _ (.refl ⟨⟨_, rfl⟩, by omega, ?_, ?_, .ow (n + 176) 3 0 (0 + 1), ?_, .inr ⟨n + 176, by omega, by omega, rfl, ?_⟩⟩)⟩
      · simp (disch := omega) only [upd_not, upd_is]; exact h0
      · simp (disch := omega) only [upd_not, upd_is]
      · simp (disch := omega) only [upd_not, upd_is]
      · rw [HT.out]; simp (disch := omega) only [upd_not, upd_is]; rfl
    · have hl : (List.take i t.columns).length = i := by rw [List.length_take]; omega
      have c1 : (i + 1) * 32 ≤ 140737488355328 := by omega
      have c2 : ¬ i1 = n + 160 := by omega
      have c3 : ¬ i1 = n + 176 := by omega
      have c4 : ¬ i1 = 16 := by omega
      simp (maxSteps := 1000000) (disch := omega) only [lb_catalog_Decode10, go_sem, wrapI, wrapB, upd_is, upd_not, Nat.reduceAdd, Nat.reduceSub, Nat.reduceMul, Nat.reduceLeDiff, Nat.reduceEqDiff, Int.reduceAdd, Int.reduceSub, Int.reduceMul, Int.reduceNeg, Int.reduceLT, Int.reduceLE, Int.reduceEq, Int.reduceToNat, reduceCtorEq, reduceIte, Nat.zero_add, Nat.add_zero, *]
      refine callD_conW (HN.out (textV c.name) (numV c.kind :: boolV c.notNull :: restA t (i + 1)) 16 _) ?_ ?_
      · intro p hp
        simp only [List.mem_singleton] at hp
        subst hp
        simp (disch := omega) only [upd_not, upd_is]; exact h16
      simp (maxSteps := 1000000) (disch := omega) only [encV_text, encV_num, encV_bool, go_sem, wrapI, wrapB, upd_is, upd_not, Nat.reduceAdd, Nat.reduceSub, Nat.reduceMul, Nat.reduceLeDiff, Nat.reduceEqDiff, Int.reduceAdd, Int.reduceSub, Int.reduceMul, Int.reduceNeg, Int.reduceLT, Int.reduceLE, Int.reduceEq, Int.reduceToNat, reduceCtorEq, reduceIte, Nat.zero_add, Nat.add_zero, *]
      refine callD_conW (HN.out (numV c.kind) (boolV c.notNull :: restA t (i + 1)) 16 _) ?_ ?_
      · intro p hp
        simp only [List.mem_singleton] at hp
        subst hp
        simp (disch := omega) only [upd_not, upd_is]
      simp (maxSteps := 1000000) (disch := omega) only [encV_text, encV_num, encV_bool, go_sem, wrapI, wrapB, upd_is, upd_not, Nat.reduceAdd, Nat.reduceSub, Nat.reduceMul, Nat.reduceLeDiff, Nat.reduceEqDiff, Int.reduceAdd, Int.reduceSub, Int.reduceMul, Int.reduceNeg, Int.reduceLT, Int.reduceLE, Int.reduceEq, Int.reduceToNat, reduceCtorEq, reduceIte, Nat.zero_add, Nat.add_zero, *]
      refine callD_conW (HN.out (boolV c.notNull) (restA t (i + 1)) 16 _) ?_ ?_
      · intro p hp
        simp only [List.mem_singleton] at hp
        subst hp
        simp (disch := omega) only [upd_not, upd_is]
      simp (maxSteps := 1000000) (disch := omega) only [encV_text, encV_num, encV_bool, hb, go_sem, wrapI, wrapB, upd_is, upd_not, Nat.reduceAdd, Nat.reduceSub, Nat.reduceMul, Nat.reduceLeDiff, Nat.reduceEqDiff, Int.reduceAdd, Int.reduceSub, Int.reduceMul, Int.reduceNeg, Int.reduceLT, Int.reduceLE, Int.reduceEq, Int.reduceToNat, reduceCtorEq, reduceIte, Nat.zero_add, Nat.add_zero, *]
      refine ⟨fun q hq => by omega, fun q hq => by omega, fun q hq => by omega, fun q hq => by omega, fun n_ hn_ => HK.out _ _ _ (.refl ⟨⟨_, rfl⟩, by omega, ?_, ?_, .ow (n + 176) 3 0 (i + 1), ?_, .inr ⟨n + 176, by omega, by omega, rfl, ?_⟩⟩)⟩
      · simp (disch := omega) only [upd_not, upd_is]; exact h0
      · simp (disch := omega) only [upd_not, upd_is]
      · simp (disch := omega) only [upd_not, upd_is]
      · rw [HT.out]; simp (disch := omega) only [upd_not, upd_is]; rfl
  · rintro K s' σ n hn ⟨⟨a, rfl⟩, hn4, h0, h16, cv, hbx, hcv⟩
    rw [List.take_length] at hcv
    rw [restA_end] at h16
    simp (maxSteps := 1000000) (disch := omega) only [lb_catalog_Decode10, Int.lt_irrefl, go_sem, wrapI, wrapB, upd_is, upd_not, Nat.reduceAdd, Nat.reduceSub, Nat.reduceMul, Nat.reduceLeDiff, Nat.reduceEqDiff, Int.reduceAdd, Int.reduceSub, Int.reduceMul, Int.reduceNeg, Int.reduceLT, Int.reduceLE, Int.reduceEq, Int.reduceToNat, reduceCtorEq, reduceIte, Nat.zero_add, Nat.add_zero, *]
    refine CALL_conW (HN.out (numV t.indexes.length) (restB t 0) 16 _) ?_ ?_
    · intro p hp
      simp only [List.mem_singleton] at hp
      subst hp
      exact h16
    intro n4 hn5
    simp (maxSteps := 1000000) (disch := omega) only [encV_text, encV_num, encV_bool, go_sem, wrapI, wrapB, upd_is, upd_not, Nat.reduceAdd, Nat.reduceSub, Nat.reduceMul, Nat.reduceLeDiff, Nat.reduceEqDiff, Int.reduceAdd, Int.reduceSub, Int.reduceMul, Int.reduceNeg, Int.reduceLT, Int.reduceLE, Int.reduceEq, Int.reduceToNat, reduceCtorEq, reduceIte, Nat.zero_add, Nat.add_zero, *]
    have z1 : ((t.indexes.length : Int) < 0) = False := eq_false (by omega)
    have z2 : (4 < (t.indexes.length : Int)) = False := eq_false (by omega)
    simp only [z1, z2, if_false]
    clear z1 z2
    obtain ⟨i1, hl1, hg1, rfl, hs1⟩ : ∃ i1, i1 < n ∧ n2 < i1 ∧ cv = .ow i1 3 0 t.columns.length ∧ σ i1 = some (.c ⟨3, t.columns.map encC, true, true⟩) := by
      rcases hcv with ⟨h, _⟩ | h
      · omega
      · exact h
    clear hcv
    refine LOOP_listM t.indexes (fun i s σ' n' => (∃ a, s = [a, .sc (.int .i64 i)]) ∧ n + 16 ≤ n' ∧ σ' 0 = some (.c ⟨4, [[.s [], .em, .sc (.int .i64 0), .em]], true, false⟩) ∧ σ' 16 = some (bxR (restB t i)) ∧ σ' i1 = some (.c ⟨3, t.columns.map encC, true, true⟩) ∧
        ∃ iv, σ' n2 = some (.c ⟨4, [[.s t.name, .ow i1 3 0 t.columns.length, .sc (.int .i64 t.key), iv]], true, false⟩) ∧ ((i = 0 ∧ iv = .em) ∨ ∃ j1, j1 < n' ∧ i1 < j1 ∧ iv = .ow j1 2 0 i ∧ σ' j1 = some (.c ⟨2, (t.indexes.take i).map encX, true, true⟩)))
      (.refl ⟨⟨_, rfl⟩, by omega, ?_, ?_, ?_, .em, ?_, .inl ⟨rfl, rfl⟩⟩) ?_ ?_
    · simp (disch := omega) only [upd_not, upd_is]; exact h0
    · simp (disch := omega) only [upd_not, upd_is]
    · simp (disch := omega) only [upd_not, upd_is]; exact hs1
    · simp (disch := omega) only [upd_not, upd_is]; exact hbx
    · clear hn5 h0 h16 hbx hs1
      rintro i c K s' σ m hx hi hi' hn5 ⟨⟨a, rfl⟩, hn6, h0, h16, hs1, iv, hbx, hiv⟩ hK
      have HK := Lib.hid hK; clear hK
      rw [restB_next hx] at h16
      have ht : (t.indexes.take (i + 1)).map encX = (t.indexes.take i).map encX ++ [encX c] := by rw [List.take_add_one, hx, List.map_append]; rfl
      have HT := Lib.hid ht; clear ht
      have g1 : ¬ n2 = 16 := by omega
      have g2 : ¬ m = 16 := by omega
      rcases hiv with ⟨rfl, rfl⟩ | ⟨j1, hl2, hg2, rfl, hs2⟩
      · simp (maxSteps := 1000000) (disch := omega) only [lb_catalog_Decode8, go_sem, wrapI, wrapB, upd_is, upd_not, Nat.reduceAdd, Nat.reduceSub, Nat.reduceMul, Nat.reduceLeDiff, Nat.reduceEqDiff, Int.reduceAdd, Int.reduceSub, Int.reduceMul, Int.reduceNeg, Int.reduceLT, Int.reduceLE, Int.reduceEq, Int.reduceToNat, reduceCtorEq, reduceIte, Nat.zero_add, Nat.add_zero, *]
        refine callD_conW (HN.out (textV c.name) (numV c.at_ :: restB t (0 + 1)) 16 _) ?_ ?_
        · intro p hp
          simp only [List.mem_singleton] at hp
          subst hp
          simp (disch := omega) only [upd_not, upd_is]; exact h16
        simp (maxSteps := 1000000) (disch := omega) only [encV_text, encV_num, encV_bool, go_sem, wrapI, wrapB, upd_is, upd_not, Nat.reduceAdd, Nat.reduceSub, Nat.reduceMul, Nat.reduceLeDiff, Nat.reduceEqDiff, Int.reduceAdd, Int.reduceSub, Int.reduceMul, Int.reduceNeg, Int.reduceLT, Int.reduceLE, Int.reduceEq, Int.reduceToNat, reduceCtorEq, reduceIte, Nat.zero_add, Nat.add_zero, *]
        refine callD_conW (HN.out (numV c.at_) (restB t (0 + 1)) 16 _) ?_ ?_
        · intro p hp
          simp only [List.mem_singleton] at hp
          subst hp
          simp (disch := omega) only [upd_not, upd_is]
        simp (maxSteps := 1000000) (disch := omega) only [encV_text, encV_num, encV_bool, go_sem, wrapI, wrapB, upd_is, upd_not, Nat.reduceAdd, Nat.reduceSub, Nat.reduceMul, Nat.reduceLeDiff, Nat.reduceEqDiff, Int.reduceAdd, Int.reduceSub, Int.reduceMul, Int.reduceNeg, Int.reduceLT, Int.reduceLE, Int.reduceEq, Int.reduceToNat, reduceCtorEq, reduceIte, Nat.zero_add, Nat.add_zero, *]
        refine ⟨fun q hq => by omega, fun q hq => by omega, fun q hq => by omega, fun n_ hn_ => HK.out _ _ _ (.refl ⟨⟨_, rfl⟩, by omega, ?_, ?_, ?_, .ow (m + 128) 2 0 (0 + 1), ?_, .inr ⟨m + 128, by omega, by omega, rfl, ?_⟩⟩)⟩
        · simp (disch := omega) only [upd_not, upd_is]; exact h0
        · simp (disch := omega) only [upd_not, upd_is]
        · simp (disch := omega) only [upd_not, upd_is]; exact hs1
        · simp (disch := omega) only [upd_not, upd_is]
        · rw [HT.out]; simp (disch := omega) only [upd_not, upd_is]; rfl
      · have hl : (List.take i t.indexes).length = i := by rw [List.length_take]; omega
        have c1 : (i + 1) * 24 ≤ 140737488355328 := by omega
        have c2 : ¬ j1 = m + 112 := by omega
        have c3 : ¬ j1 = m + 128 := by omega
        have c4 : ¬ j1 = 16 := by omega
        simp (maxSteps := 1000000) (disch := omega) only [lb_catalog_Decode8, go_sem, wrapI, wrapB, upd_is, upd_not, Nat.reduceAdd, Nat.reduceSub, Nat.reduceMul, Nat.reduceLeDiff, Nat.reduceEqDiff, Int.reduceAdd, Int.reduceSub, Int.reduceMul, Int.reduceNeg, Int.reduceLT, Int.reduceLE, Int.reduceEq, Int.reduceToNat, reduceCtorEq, reduceIte, Nat.zero_add, Nat.add_zero, *]
        refine callD_conW (HN.out (textV c.name) (numV c.at_ :: restB t (i + 1)) 16 _) ?_ ?_
        · intro p hp
          simp only [List.mem_singleton] at hp
          subst hp
          simp (disch := omega) only [upd_not, upd_is]; exact h16
        simp (maxSteps := 1000000) (disch := omega) only [encV_text, encV_num, encV_bool, go_sem, wrapI, wrapB, upd_is, upd_not, Nat.reduceAdd, Nat.reduceSub, Nat.reduceMul, Nat.reduceLeDiff, Nat.reduceEqDiff, Int.reduceAdd, Int.reduceSub, Int.reduceMul, Int.reduceNeg, Int.reduceLT, Int.reduceLE, Int.reduceEq, Int.reduceToNat, reduceCtorEq, reduceIte, Nat.zero_add, Nat.add_zero, *]
        refine callD_conW (HN.out (numV c.at_) (restB t (i + 1)) 16 _) ?_ ?_
        · intro p hp
          simp only [List.mem_singleton] at hp
          subst hp
          simp (disch := omega) only [upd_not, upd_is]
        simp (maxSteps := 1000000) (disch := omega) only [encV_text, encV_num, encV_bool, go_sem, wrapI, wrapB, upd_is, upd_not, Nat.reduceAdd, Nat.reduceSub, Nat.reduceMul, Nat.reduceLeDiff, Nat.reduceEqDiff, Int.reduceAdd, Int.reduceSub, Int.reduceMul, Int.reduceNeg, Int.reduceLT, Int.reduceLE, Int.reduceEq, Int.reduceToNat, reduceCtorEq, reduceIte, Nat.zero_add, Nat.add_zero, *]
        refine ⟨fun q hq => by omega, fun q hq => by omega, fun q hq => by omega, fun n_ hn_ => HK.out _ _ _ (.refl ⟨⟨_, rfl⟩, by omega, ?_, ?_, ?_, .ow (m + 128) 2 0 (i + 1), ?_, .inr ⟨m + 128, by omega, by omega, rfl, ?_⟩⟩)⟩
        · simp (disch := omega) only [upd_not, upd_is]; exact h0
        · simp (disch := omega) only [upd_not, upd_is]
        · simp (disch := omega) only [upd_not, upd_is]; exact hs1
        · simp (disch := omega) only [upd_not, upd_is]
        · rw [HT.out]; simp (disch := omega) only [upd_not, upd_is]; rfl
    · clear hn5 h0 h16 hbx hs1
      rintro K s' σ m hn5 ⟨⟨a, rfl⟩, hn6, h0, h16, hs1, iv, hbx, hiv⟩
      rw [List.take_length] at hiv
      have hli : leafok iv = true := by rcases hiv with ⟨_, rfl⟩ | ⟨i1, _, _, rfl, _⟩ <;> rfl
      have HIV := Lib.hid hiv; clear hiv
      simp (maxSteps := 1000000) (disch := omega) only [lb_catalog_Decode8, Int.lt_irrefl, go_sem, wrapI, wrapB, upd_is, upd_not, Nat.reduceAdd, Nat.reduceSub, Nat.reduceMul, Nat.reduceLeDiff, Nat.reduceEqDiff, Int.reduceAdd, Int.reduceSub, Int.reduceMul, Int.reduceNeg, Int.reduceLT, Int.reduceLE, Int.reduceEq, Int.reduceToNat, reduceCtorEq, reduceIte, Nat.zero_add, Nat.add_zero, *]
      obtain ⟨J, hJ, hib⟩ : ∃ J : List Nat, (∀ j ∈ J, j ≠ 0 ∧ j ≠ n2) ∧ ∀ σ2 d, (∀ j k rows w cl, j ≠ 0 → σ j = some (.c ⟨k, rows, w, cl⟩) → ∃ w', σ2 j = some (.c ⟨k, rows, w', cl⟩)) → brw σ2 (d + 1) iv = some (.tr (t.indexes.map encX), J) := by
        rcases HIV.out with ⟨h, rfl⟩ | ⟨j1, a1, a2, rfl, h⟩
        · have h3 := List.eq_nil_of_length_eq_zero h
          rw [h3]; exact ⟨[], fun j hj => absurd hj (by simp), fun σ2 d _ => rfl⟩
        · refine ⟨[j1], fun j hj => ?_, fun σ2 d hk => ?_⟩
          · simp only [List.mem_singleton] at hj; omega
          · obtain ⟨w', hw⟩ := hk _ _ _ _ _ (by omega) h
            exact brw_all hw (List.length_map _) (by omega)
      have hcb : ∀ σ2 d, (∀ j k rows w cl, j ≠ 0 → σ j = some (.c ⟨k, rows, w, cl⟩) → ∃ w', σ2 j = some (.c ⟨k, rows, w', cl⟩)) → brw σ2 (d + 1) (.ow i1 3 0 t.columns.length) = some (.tr (t.columns.map encC), [i1]) := by
        intro σ2 d hk
        obtain ⟨w', hw⟩ := hk _ _ _ _ _ (by omega) hs1
        exact brw_all hw (List.length_map _) (by omega)
      have hself : ∀ j k rows w cl, j ≠ 0 → σ j = some (.c ⟨k, rows, w, cl⟩) → ∃ w', σ j = some (.c ⟨k, rows, w', cl⟩) := fun j k rows w cl _ h => ⟨w, h⟩
      refine CALL_conB (I := i1 :: J) HE.out ?_ ?_
      · simp only [List.append_nil, List.nil_append, List.cons_append, brwL_cons, brwL_nil, brw_ag, brw_s, brw_sc, hcb σ 4 hself, hib σ 4 hself, Option.map_some]; rfl
      intro σ2 hk hb
      have HCB := Lib.hid hcb; clear hcb
      have HIB := Lib.hid hib; clear hib hself
      have k0 : σ2 0 = some (.c ⟨4, [[.s [], .em, .sc (.int .i64 0), .em]], true, false⟩) := by
        rw [hk 0 (by simp only [List.mem_cons, not_or]; exact ⟨by omega, fun h => (hJ 0 h).1 rfl⟩)]; exact h0
      have kb : σ2 n2 = some (.c ⟨4, [[.s t.name, .ow i1 3 0 t.columns.length, .sc (.int .i64 t.key), iv]], true, false⟩) := by
        rw [hk n2 (by simp only [List.mem_cons, not_or]; exact ⟨by omega, fun h => (hJ n2 h).2 rfl⟩)]; exact hbx
      clear hk h0 hbx hJ
      have HB := Lib.hid hb; clear hb
      simp (maxSteps := 1000000) (disch := omega) only [decide_true, go_sem, wrapI, wrapB, upd_is, upd_not, Nat.reduceAdd, Nat.reduceSub, Nat.reduceMul, Nat.reduceLeDiff, Nat.reduceEqDiff, Int.reduceAdd, Int.reduceSub, Int.reduceMul, Int.reduceNeg, Int.reduceLT, Int.reduceLE, Int.reduceEq, Int.reduceToNat, reduceCtorEq, reduceIte, Nat.zero_add, Nat.add_zero, *]
      refine CALL_con0 HQ.out (by simp only [List.append_nil, brwL_cons, brwL_nil, brw_tr]) ?_
      simp (maxSteps := 1000000) (disch := omega) only [go_sem, wrapI, wrapB, upd_is, upd_not, Nat.reduceAdd, Nat.reduceSub, Nat.reduceMul, Nat.reduceLeDiff, Nat.reduceEqDiff, Int.reduceAdd, Int.reduceSub, Int.reduceMul, Int.reduceNeg, Int.reduceLT, Int.reduceLE, Int.reduceEq, Int.reduceToNat, reduceCtorEq, reduceIte, Nat.zero_add, Nat.add_zero, *]
      rw [← HR.out]
      refine RC_ret (I := i1 :: J) ?_ rfl
      have hb2 : ∀ (y : Option Ob), ∀ j k rows w cl, j ≠ 0 → σ j = some (.c ⟨k, rows, w, cl⟩) → ∃ w', upd σ2 0 y j = some (.c ⟨k, rows, w', cl⟩) := fun y j k rows w cl hj h => by
        rw [upd_not hj]; exact HB.out j k rows w cl h
      simp only [List.append_nil, List.nil_append, List.cons_append, brwL_cons, brwL_nil, brw_tp, brw_ag, brw_s, brw_sc, HCB.out _ _ (hb2 _), HIB.out _ _ (hb2 _), Option.map_some]; rfl
end Go.Proofs.Ytlhnncmflnjinaa
